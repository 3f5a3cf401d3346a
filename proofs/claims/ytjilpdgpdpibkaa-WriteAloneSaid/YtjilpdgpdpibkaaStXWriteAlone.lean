/-
  The law WriteAlone on the given program. Conditions: none.
-/
import Derived.Test.YtjilpdgpdpibkaaStM
import Derived.Test.YtjilpdgpdpibkaaStY
set_option linter.unusedVariables false
namespace Go.Proofs.Ytjilpdgpdpibkaa
open Go Go.Vcg
theorem fok_WriteAlone : FOK Try.prog (tb gl0 tabL) n_reredoskeep_WriteAlone sp_WriteAlone := FOK.of tabL_ok f_reredoskeep_WriteAlone c_reredoskeep_WriteAlone (v_WriteAlone rfl rfl rfl rfl rfl rfl rfl)
end Go.Proofs.Ytjilpdgpdpibkaa
