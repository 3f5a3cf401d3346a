/-
  The law EndApplies on the given program. Conditions: none.
-/
import Derived.Test.YtjilpdgpdpibkaaStN
import Derived.Test.YtjilpdgpdpibkaaStT
set_option linter.unusedVariables false
namespace Go.Proofs.Ytjilpdgpdpibkaa
open Go Go.Vcg
theorem fok_EndApplies : FOK Try.prog (tb gl0 tabB) n_reredoskeep_EndApplies sp_EndApplies := FOK.of tabB_ok f_reredoskeep_EndApplies c_reredoskeep_EndApplies (v_EndApplies rfl rfl rfl rfl rfl rfl)
end Go.Proofs.Ytjilpdgpdpibkaa
