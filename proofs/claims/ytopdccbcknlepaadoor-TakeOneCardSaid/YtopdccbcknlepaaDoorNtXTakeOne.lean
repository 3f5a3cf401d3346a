/-
  The law TakeOne on the given program. Conditions: that the table of kinds reads as the text has it.
-/
import Derived.Test.YtopdccbcknlepaaDoorNtH
import Derived.Test.YtopdccbcknlepaaDoorNtT
set_option linter.unusedVariables false
namespace Go.Proofs.YtopdccbcknlepaaDoor
open Go Go.Vcg
theorem fok_TakeOne : FOK Tryd.prog (tb glM tabN) n_reredoskeep_TakeOne sp_TakeOne := FOK.of tabN_ok f_reredoskeep_TakeOne c_reredoskeep_TakeOne (v_TakeOne rfl rfl rfl rfl rfl rfl rfl)
end Go.Proofs.YtopdccbcknlepaaDoor
