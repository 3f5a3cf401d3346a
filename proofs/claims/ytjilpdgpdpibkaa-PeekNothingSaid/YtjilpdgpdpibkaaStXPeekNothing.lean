/-
  The law PeekNothing on the given program. Conditions: none.
-/
import Derived.Test.YtjilpdgpdpibkaaStP
import Derived.Test.YtjilpdgpdpibkaaStY
set_option linter.unusedVariables false
namespace Go.Proofs.Ytjilpdgpdpibkaa
open Go Go.Vcg
theorem fok_PeekNothing : FOK Try.prog (tb gl0 tabL) n_reredoskeep_PeekNothing sp_PeekNothing := FOK.of tabL_ok f_reredoskeep_PeekNothing c_reredoskeep_PeekNothing (v_PeekNothing rfl rfl rfl rfl rfl rfl)
end Go.Proofs.Ytjilpdgpdpibkaa
