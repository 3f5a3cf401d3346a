/-
  The law HearDown on the given program. Conditions: that the table of kinds reads as the text has it.
-/
import Derived.Test.YtilahimnineigaaDoorHlDown
import Derived.Test.YtilahimnineigaaDoorHlT
set_option linter.unusedVariables false
namespace Go.Proofs.YtilahimnineigaaDoor
open Go Go.Vcg
theorem fok_HearDown : FOK Tryd.prog (tb glM tabH) n_reredoskeep_HearDown sp_HearDown := FOK.of tabH_ok f_reredoskeep_HearDown c_reredoskeep_HearDown (v_HearDown rfl rfl rfl rfl rfl rfl rfl)
end Go.Proofs.YtilahimnineigaaDoor
