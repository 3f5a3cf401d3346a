/-
  ShowHidden's function is what its specification says, for the given program. Conditions: that the table of the powers of ten holds what the text lays.
-/
import Derived.Test.YtghehknnaifoeaaDoorShH
import Derived.Test.YtghehknnaifoeaaDoorShT
set_option linter.unusedVariables false
namespace Go.Proofs.YtghehknnaifoeaaDoor
open Go Go.Vcg

theorem fok_ShowHidden : FOK Tryd.prog (tb glP tabB) n_reredoskeep_ShowHidden sp_ShowHidden := FOK.of tabB_ok f_reredoskeep_ShowHidden c_reredoskeep_ShowHidden (v_ShowHidden rfl rfl rfl rfl)
end Go.Proofs.YtghehknnaifoeaaDoor
