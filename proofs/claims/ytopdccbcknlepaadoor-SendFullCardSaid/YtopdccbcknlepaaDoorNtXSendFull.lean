/-
  The law SendFull on the given program. Conditions: that the table of kinds reads as the text has it.
-/
import Derived.Test.YtopdccbcknlepaaDoorNtG
import Derived.Test.YtopdccbcknlepaaDoorNtT
set_option linter.unusedVariables false
namespace Go.Proofs.YtopdccbcknlepaaDoor
open Go Go.Vcg
theorem fok_SendFull : FOK Tryd.prog (tb glM tabN) n_reredoskeep_SendFull sp_SendFull := FOK.of tabN_ok f_reredoskeep_SendFull c_reredoskeep_SendFull (v_SendFull rfl rfl rfl rfl rfl rfl rfl)
end Go.Proofs.YtopdccbcknlepaaDoor
