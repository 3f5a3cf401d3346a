/-
  The law HearWrite on the given program. Conditions: that the table of kinds reads as the text has it.
-/
import Derived.Test.YtilahimnineigaaDoorHlWrite
import Derived.Test.YtilahimnineigaaDoorHlT
set_option linter.unusedVariables false
namespace Go.Proofs.YtilahimnineigaaDoor
open Go Go.Vcg
theorem fok_HearWrite : FOK Tryd.prog (tb glM tabH) n_reredoskeep_HearWrite sp_HearWrite := FOK.of tabH_ok f_reredoskeep_HearWrite c_reredoskeep_HearWrite (v_HearWrite rfl rfl rfl rfl rfl rfl rfl rfl)
end Go.Proofs.YtilahimnineigaaDoor
