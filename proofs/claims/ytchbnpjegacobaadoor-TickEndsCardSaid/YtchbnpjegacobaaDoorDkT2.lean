/-
  The functions of desks are what the specifications say, and that a desk without a next number may not be, for the given program. Conditions: that the table of kinds reads as the text has it.
-/
import Derived.Test.YtchbnpjegacobaaDoorDkT
import Derived.Test.YtchbnpjegacobaaDoorDkE
set_option linter.unusedVariables false
namespace Go.Proofs.YtchbnpjegacobaaDoor
open Go Go.Vcg
noncomputable def tabN2 : List (Nat × Sp) := (n_reredoskeep_coordTells, sp_tells) :: tabN
set_option maxRecDepth 10000 in
theorem tabN2_ok : TbOK Tryd.prog kf (tb glM tabN2) :=
  tabN_ok.cons k_reredoskeep_coordTells f_reredoskeep_coordTells e_reredoskeep_coordTells c_reredoskeep_coordTells (v_tells rfl rfl)
end Go.Proofs.YtchbnpjegacobaaDoor
