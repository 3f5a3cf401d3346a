/-
  LinesBack's function is what its specification says, for the given program. Conditions: that the variables of the library and the two word lists hold what the text lays.
-/
import Derived.Test.YthiggepiihoooaaDoorLnH
import Derived.Test.YthiggepiihoooaaDoorLnU
set_option linter.unusedVariables false
namespace Go.Proofs.YthiggepiihoooaaDoor
open Go Go.Vcg

theorem fok_LinesBack (m : Int) : FOK Tryd.prog (tb (glL m) tabL) n_reredoskeep_LinesBack sp_LinesBack := FOK.of (tabL_ok m) f_reredoskeep_LinesBack c_reredoskeep_LinesBack (v_LinesBack rfl rfl rfl rfl rfl)
end Go.Proofs.YthiggepiihoooaaDoor
