/-
  The law HearSure on the given program. Conditions: that the table of kinds reads as the text has it.
-/
import Derived.Test.YtilahimnineigaaDoorHlSure
import Derived.Test.YtilahimnineigaaDoorHlT
set_option linter.unusedVariables false
namespace Go.Proofs.YtilahimnineigaaDoor
open Go Go.Vcg
noncomputable def tabS : List (Nat × Sp) := (n_reredoskeep_HearSure_1, sp_sure) :: tabH
set_option maxRecDepth 10000 in
theorem tabS_ok : TbOK Tryd.prog kf (tb glM tabS) := tabH_ok.cons
    k_reredoskeep_HearSure_1 f_reredoskeep_HearSure_1 e_reredoskeep_HearSure_1 c_reredoskeep_HearSure_1 (v_sure rfl)
theorem fok_HearSure : FOK Tryd.prog (tb glM tabS) n_reredoskeep_HearSure sp_HearSure := FOK.of tabS_ok f_reredoskeep_HearSure c_reredoskeep_HearSure (v_HearSure rfl rfl rfl rfl rfl rfl rfl rfl)
end Go.Proofs.YtilahimnineigaaDoor
