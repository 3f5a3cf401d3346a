/-
  The law ForceDamage on the given program. Conditions: that the table of kinds reads as the text has it.
-/
import Derived.Test.YtilahimnineigaaDoorHlDamage
import Derived.Test.YtilahimnineigaaDoorHlT
set_option linter.unusedVariables false
namespace Go.Proofs.YtilahimnineigaaDoor
open Go Go.Vcg
theorem fok_ForceDamage : FOK Tryd.prog (tb glM tabH) n_reredoskeep_ForceDamage sp_ForceDamage := FOK.of tabH_ok f_reredoskeep_ForceDamage c_reredoskeep_ForceDamage (v_ForceDamage rfl rfl rfl rfl rfl rfl)
end Go.Proofs.YtilahimnineigaaDoor
