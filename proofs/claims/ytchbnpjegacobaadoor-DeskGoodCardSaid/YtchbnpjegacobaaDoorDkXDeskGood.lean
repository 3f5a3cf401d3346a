/-
  The law DeskGood on the given program. Conditions: that the table of kinds reads as the text has it.
-/
import Derived.Test.YtchbnpjegacobaaDoorDkDeskGood
import Derived.Test.YtchbnpjegacobaaDoorDkT
set_option linter.unusedVariables false
namespace Go.Proofs.YtchbnpjegacobaaDoor
open Go Go.Vcg
theorem fok_DeskGood : FOK Tryd.prog (tb glM tabN) n_reredoskeep_DeskGood sp_DeskGood := FOK.of tabN_ok f_reredoskeep_DeskGood c_reredoskeep_DeskGood (v_DeskGood rfl rfl rfl rfl)
end Go.Proofs.YtchbnpjegacobaaDoor
