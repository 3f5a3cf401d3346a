/-
  LinesBad's function is what its specification says, for the given program. Conditions: that the variables of the library and the two word lists hold what the text lays.
-/
import Derived.Test.YthiggepiihoooaaDoorLnK
import Derived.Test.YthiggepiihoooaaDoorLnU
set_option linter.unusedVariables false
namespace Go.Proofs.YthiggepiihoooaaDoor
open Go Go.Vcg

theorem fok_LinesBad (m : Int) : FOK Tryd.prog (tb (glL m) tabL) n_reredoskeep_LinesBad sp_LinesBad := FOK.of (tabL_ok m) f_reredoskeep_LinesBad c_reredoskeep_LinesBad (v_LinesBad rfl rfl rfl rfl rfl)
end Go.Proofs.YthiggepiihoooaaDoor
