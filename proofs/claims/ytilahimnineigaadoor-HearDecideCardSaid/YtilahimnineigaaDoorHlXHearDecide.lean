/-
  The law HearDecide on the given program. Conditions: that the table of kinds reads as the text has it.
-/
import Derived.Test.YtilahimnineigaaDoorHlDecide
import Derived.Test.YtilahimnineigaaDoorHlT
set_option linter.unusedVariables false
namespace Go.Proofs.YtilahimnineigaaDoor
open Go Go.Vcg
theorem fok_HearDecide : FOK Tryd.prog (tb glM tabH) n_reredoskeep_HearDecide sp_HearDecide := FOK.of tabH_ok f_reredoskeep_HearDecide c_reredoskeep_HearDecide (v_HearDecide rfl rfl rfl rfl rfl rfl)
end Go.Proofs.YtilahimnineigaaDoor
