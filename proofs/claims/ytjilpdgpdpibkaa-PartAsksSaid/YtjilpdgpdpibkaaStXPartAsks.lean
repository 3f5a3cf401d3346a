/-
  The law PartAsks on the given program. Conditions: none.
-/
import Derived.Test.YtjilpdgpdpibkaaPtE
import Derived.Test.YtjilpdgpdpibkaaStV
set_option linter.unusedVariables false
namespace Go.Proofs.Ytjilpdgpdpibkaa
open Go Go.Vcg
theorem fok_PartAsks : FOK Try.prog (tb gl0 tabP) n_reredoskeep_PartAsks sp_PartAsks := FOK.of tabP_ok f_reredoskeep_PartAsks c_reredoskeep_PartAsks (v_PartAsks rfl rfl rfl rfl rfl)
end Go.Proofs.Ytjilpdgpdpibkaa
