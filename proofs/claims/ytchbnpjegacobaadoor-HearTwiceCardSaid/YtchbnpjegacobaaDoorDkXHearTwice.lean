/-
  The law HearTwice on the given program. Conditions: that the table of kinds reads as the text has it.
-/
import Derived.Test.YtchbnpjegacobaaDoorDkHearTwice
import Derived.Test.YtchbnpjegacobaaDoorDkT2
set_option linter.unusedVariables false
namespace Go.Proofs.YtchbnpjegacobaaDoor
open Go Go.Vcg
theorem fok_HearTwice : FOK Tryd.prog (tb glM tabN2) n_reredoskeep_HearTwice sp_HearTwice := FOK.of tabN2_ok f_reredoskeep_HearTwice c_reredoskeep_HearTwice (v_HearTwice rfl rfl rfl rfl rfl rfl rfl)
end Go.Proofs.YtchbnpjegacobaaDoor
