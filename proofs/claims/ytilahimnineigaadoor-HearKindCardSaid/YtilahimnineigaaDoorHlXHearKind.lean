/-
  The law HearKind on the given program. Conditions: that the table of kinds reads as the text has it.
-/
import Derived.Test.YtilahimnineigaaDoorHlKind
import Derived.Test.YtilahimnineigaaDoorHlT
set_option linter.unusedVariables false
namespace Go.Proofs.YtilahimnineigaaDoor
open Go Go.Vcg
theorem fok_HearKind : FOK Tryd.prog (tb glM tabH) n_reredoskeep_HearKind sp_HearKind := FOK.of tabH_ok f_reredoskeep_HearKind c_reredoskeep_HearKind (v_HearKind rfl rfl rfl rfl rfl rfl rfl)
end Go.Proofs.YtilahimnineigaaDoor
