/-
  The law SendAll on the given program. Conditions: that the table of kinds reads as the text has it.
-/
import Derived.Test.YtopdccbcknlepaaDoorNtF
import Derived.Test.YtopdccbcknlepaaDoorNtT
set_option linter.unusedVariables false
namespace Go.Proofs.YtopdccbcknlepaaDoor
open Go Go.Vcg
theorem fok_SendAll : FOK Tryd.prog (tb glM tabN) n_reredoskeep_SendAll sp_SendAll := FOK.of tabN_ok f_reredoskeep_SendAll c_reredoskeep_SendAll (v_SendAll rfl rfl rfl rfl rfl rfl)
end Go.Proofs.YtopdccbcknlepaaDoor
