/-
  ShowList's function is what its specification says, for the given program. Conditions: that the table of the powers of ten holds what the text lays.
-/
import Derived.Test.YtghehknnaifoeaaDoorShL
import Derived.Test.YtghehknnaifoeaaDoorShT
set_option linter.unusedVariables false
namespace Go.Proofs.YtghehknnaifoeaaDoor
open Go Go.Vcg

theorem fok_ShowList : FOK Tryd.prog (tb glP tabB) n_reredoskeep_ShowList sp_ShowList := FOK.of tabB_ok f_reredoskeep_ShowList c_reredoskeep_ShowList (v_ShowList rfl rfl rfl rfl)
end Go.Proofs.YtghehknnaifoeaaDoor
