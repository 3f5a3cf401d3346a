/-
  The law EndOthers on the given program. Conditions: none.
-/
import Derived.Test.YtjilpdgpdpibkaaStR
import Derived.Test.YtjilpdgpdpibkaaStY
set_option linter.unusedVariables false
namespace Go.Proofs.Ytjilpdgpdpibkaa
open Go Go.Vcg
theorem fok_EndOthers : FOK Try.prog (tb gl0 tabL) n_reredoskeep_EndOthers sp_EndOthers := FOK.of tabL_ok f_reredoskeep_EndOthers c_reredoskeep_EndOthers (v_EndOthers rfl rfl rfl rfl)
end Go.Proofs.Ytjilpdgpdpibkaa
