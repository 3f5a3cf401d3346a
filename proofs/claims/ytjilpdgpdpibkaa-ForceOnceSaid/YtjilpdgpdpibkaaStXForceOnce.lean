/-
  The law ForceOnce on the given program. Conditions: none.
-/
import Derived.Test.YtjilpdgpdpibkaaPtC
import Derived.Test.YtjilpdgpdpibkaaStV
set_option linter.unusedVariables false
namespace Go.Proofs.Ytjilpdgpdpibkaa
open Go Go.Vcg
theorem fok_ForceOnce : FOK Try.prog (tb gl0 tabP) n_reredoskeep_ForceOnce sp_ForceOnce := FOK.of tabP_ok f_reredoskeep_ForceOnce c_reredoskeep_ForceOnce (v_ForceOnce rfl rfl rfl rfl rfl)
end Go.Proofs.Ytjilpdgpdpibkaa
