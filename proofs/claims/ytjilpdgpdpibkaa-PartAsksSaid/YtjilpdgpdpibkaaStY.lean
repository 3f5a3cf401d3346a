/-
  The functions on stores are what the specifications say, for the given program (more of them). Conditions: none.
-/
import Derived.Test.YtjilpdgpdpibkaaStL
import Derived.Test.YtjilpdgpdpibkaaStT
set_option linter.unusedVariables false
namespace Go.Proofs.Ytjilpdgpdpibkaa
open Go Go.Vcg
noncomputable def tabL : List (Nat × Sp) := (n_reredoskeep_storeTells, sp_tells) :: (n_reredoskeep_sameStore, sp_same) :: (n_store_Writes, sp_Writes) :: tabB
set_option maxRecDepth 10000 in
theorem tabL_ok : TbOK Try.prog kf (tb gl0 tabL) := ((tabB_ok.cons
    k_store_Writes f_store_Writes e_store_Writes c_store_Writes (v_Writes rfl)).cons
    k_reredoskeep_sameStore f_reredoskeep_sameStore e_reredoskeep_sameStore c_reredoskeep_sameStore v_same).cons
    k_reredoskeep_storeTells f_reredoskeep_storeTells e_reredoskeep_storeTells c_reredoskeep_storeTells (v_tells rfl)
end Go.Proofs.Ytjilpdgpdpibkaa
