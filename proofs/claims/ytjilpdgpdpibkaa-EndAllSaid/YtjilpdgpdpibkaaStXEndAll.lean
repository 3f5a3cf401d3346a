/-
  The law EndAll on the given program. Conditions: none.
-/
import Derived.Test.YtjilpdgpdpibkaaStO
import Derived.Test.YtjilpdgpdpibkaaStY
set_option linter.unusedVariables false
namespace Go.Proofs.Ytjilpdgpdpibkaa
open Go Go.Vcg
theorem fok_EndAll : FOK Try.prog (tb gl0 tabL) n_reredoskeep_EndAll sp_EndAll := FOK.of tabL_ok f_reredoskeep_EndAll c_reredoskeep_EndAll (v_EndAll rfl rfl rfl rfl rfl rfl rfl rfl)
end Go.Proofs.Ytjilpdgpdpibkaa
