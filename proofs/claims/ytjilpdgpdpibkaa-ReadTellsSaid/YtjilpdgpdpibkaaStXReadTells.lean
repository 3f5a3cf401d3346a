/-
  The law ReadTells on the given program. Conditions: none.
-/
import Derived.Test.YtjilpdgpdpibkaaStQ
import Derived.Test.YtjilpdgpdpibkaaStY
set_option linter.unusedVariables false
namespace Go.Proofs.Ytjilpdgpdpibkaa
open Go Go.Vcg
theorem fok_ReadTells : FOK Try.prog (tb gl0 tabL) n_reredoskeep_ReadTells sp_ReadTells := FOK.of tabL_ok f_reredoskeep_ReadTells c_reredoskeep_ReadTells (v_ReadTells rfl rfl rfl rfl rfl rfl rfl)
end Go.Proofs.Ytjilpdgpdpibkaa
