/-
  The law TickEnds on the given program. Conditions: that the table of kinds reads as the text has it.
-/
import Derived.Test.YtchbnpjegacobaaDoorDkTickEnds
import Derived.Test.YtchbnpjegacobaaDoorDkT2
set_option linter.unusedVariables false
namespace Go.Proofs.YtchbnpjegacobaaDoor
open Go Go.Vcg
theorem fok_TickEnds : FOK Tryd.prog (tb glM tabN2) n_reredoskeep_TickEnds sp_TickEnds := FOK.of tabN2_ok f_reredoskeep_TickEnds c_reredoskeep_TickEnds (v_TickEnds rfl rfl rfl rfl rfl)
end Go.Proofs.YtchbnpjegacobaaDoor
