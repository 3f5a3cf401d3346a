/-
  The functions on parts are what the specifications say, for the given program. Conditions: none.
-/
import Derived.Test.YtjilpdgpdpibkaaPtB
import Derived.Test.YtjilpdgpdpibkaaPtD
import Derived.Test.YtjilpdgpdpibkaaStY
set_option linter.unusedVariables false
namespace Go.Proofs.Ytjilpdgpdpibkaa
open Go Go.Vcg
noncomputable def tabP : List (Nat × Sp) := (n_part_Tick, sp_Tick) :: (n_part_Force, sp_Force) :: (n_part_own, sp_pown) :: (n_part_site_check, sp_site) :: (n_slices_Clone_reredos_api_Note_reredos_api_Note, sp_Clone 4) :: (n_store_Age, sp_Age) :: (n_reredoskeep_two, sp_two) :: (n_label_Check, sp_Check) :: (n_label_one, sp_one) :: tabL
set_option maxRecDepth 10000 in
theorem tabP_ok : TbOK Try.prog kf (tb gl0 tabP) := (((((((((tabL_ok.cons
    k_label_one f_label_one e_label_one c_label_one v_one).cons
    k_label_Check f_label_Check e_label_Check c_label_Check (v_Check rfl)).cons
    k_reredoskeep_two f_reredoskeep_two e_reredoskeep_two c_reredoskeep_two (v_two rfl)).cons
    k_store_Age f_store_Age e_store_Age c_store_Age (v_Age rfl rfl)).cons
    k_slices_Clone_reredos_api_Note_reredos_api_Note f_slices_Clone_reredos_api_Note_reredos_api_Note e_slices_Clone_reredos_api_Note_reredos_api_Note c_slices_Clone_reredos_api_Note_reredos_api_Note v_CloneN).cons
    k_part_site_check f_part_site_check e_part_site_check c_part_site_check (v_site rfl rfl)).cons
    k_part_own f_part_own e_part_own c_part_own (v_pown rfl rfl rfl rfl)).cons
    k_part_Force f_part_Force e_part_Force c_part_Force (v_Force rfl rfl rfl rfl rfl)).cons
    k_part_Tick f_part_Tick e_part_Tick c_part_Tick (v_Tick rfl rfl rfl))
end Go.Proofs.Ytjilpdgpdpibkaa
