/-
  The laws StoreGood and WriteLater on the given program. Conditions: none.
-/
import Derived.Test.YtjilpdgpdpibkaaStK
import Derived.Test.YtjilpdgpdpibkaaStT
set_option linter.unusedVariables false
namespace Go.Proofs.Ytjilpdgpdpibkaa
open Go Go.Vcg
theorem fok_StoreGood : FOK Try.prog (tb gl0 tabB) n_reredoskeep_StoreGood sp_StoreGood := FOK.of tabB_ok f_reredoskeep_StoreGood c_reredoskeep_StoreGood (v_StoreGood rfl rfl rfl)
theorem fok_WriteLater : FOK Try.prog (tb gl0 tabB) n_reredoskeep_WriteLater sp_WriteLater := FOK.of tabB_ok f_reredoskeep_WriteLater c_reredoskeep_WriteLater (v_WriteLater rfl rfl rfl rfl rfl)
end Go.Proofs.Ytjilpdgpdpibkaa
