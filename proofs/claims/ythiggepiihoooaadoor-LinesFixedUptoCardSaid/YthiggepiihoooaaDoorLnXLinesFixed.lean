/-
  LinesFixed's function is what its specification says, for the given program. Conditions: that the variables of the library and the two word lists hold what the text lays.
-/
import Derived.Test.YthiggepiihoooaaDoorLnI
import Derived.Test.YthiggepiihoooaaDoorLnU
set_option linter.unusedVariables false
namespace Go.Proofs.YthiggepiihoooaaDoor
open Go Go.Vcg

theorem fok_LinesFixed (m : Int) : FOK Tryd.prog (tb (glL m) tabL) n_reredoskeep_LinesFixed sp_LinesFixed := FOK.of (tabL_ok m) f_reredoskeep_LinesFixed c_reredoskeep_LinesFixed (v_LinesFixed rfl rfl rfl)
end Go.Proofs.YthiggepiihoooaaDoor
