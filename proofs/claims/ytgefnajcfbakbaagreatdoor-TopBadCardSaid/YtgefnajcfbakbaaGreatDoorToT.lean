/-
  The functions that TopBad reaches are what the specifications say, and the law, for the given program. No conditions.
-/
import Derived.Test.YtgefnajcfbakbaaGreatDoorToB
set_option linter.unusedVariables false
namespace Go.Proofs.YtgefnajcfbakbaaGreatDoor
open Go Go.Vcg

noncomputable def tabT : List (Nat × Sp) := [(n_cluster_Run, sp_Run), (n_reredoskeep_Picked, sp_picked), (n_lines_Check, sp_LCheck), (n_lines_call, sp_lcall), (n_lines_bare, sp_bare), (n_lines_numbers, sp_numbers), (n_slices_ContainsFunc_int_int, sp_ContI), (n_slices_IndexFunc_int_int, sp_IndexI), (n_lines_numbers_1, sp_num1), (n_label_Check, sp_Check), (n_label_one, sp_one), (n_reredoskeep_Config, sp_Config), (n_reredoskeep_Acts, sp_Acts), (n_reredoskeep_typed, sp_typed), (n_reredoskeep_ask, sp_ask), (n_reredoskeep_dec, sp_dec), (n_reredoskeep_Lab, sp_Lab), (n_reredoskeep_picked, sp_picked)]
set_option maxRecDepth 10000 in
theorem tabT_ok : TbOK Tryz.prog kf (tb gl0 tabT) :=
  (((((((((((((((((((TbOK.nil : TbOK Tryz.prog kf (tb gl0 [])).cons
    k_reredoskeep_picked f_reredoskeep_picked e_reredoskeep_picked c_reredoskeep_picked v_picked).cons
    k_reredoskeep_Lab f_reredoskeep_Lab e_reredoskeep_Lab c_reredoskeep_Lab (v_Lab rfl)).cons
    k_reredoskeep_dec f_reredoskeep_dec e_reredoskeep_dec c_reredoskeep_dec v_dec).cons
    k_reredoskeep_ask f_reredoskeep_ask e_reredoskeep_ask c_reredoskeep_ask (v_ask rfl)).cons
    k_reredoskeep_typed f_reredoskeep_typed e_reredoskeep_typed c_reredoskeep_typed (v_typed rfl rfl)).cons
    k_reredoskeep_Acts f_reredoskeep_Acts e_reredoskeep_Acts c_reredoskeep_Acts (v_Acts rfl rfl rfl)).cons
    k_reredoskeep_Config f_reredoskeep_Config e_reredoskeep_Config c_reredoskeep_Config (v_Config rfl rfl)).cons
    k_label_one f_label_one e_label_one c_label_one v_one).cons
    k_label_Check f_label_Check e_label_Check c_label_Check (v_Check rfl)).cons
    k_lines_numbers_1 f_lines_numbers_1 e_lines_numbers_1 c_lines_numbers_1 v_num1).cons
    k_slices_IndexFunc_int_int f_slices_IndexFunc_int_int e_slices_IndexFunc_int_int c_slices_IndexFunc_int_int (v_IndexI rfl)).cons
    k_slices_ContainsFunc_int_int f_slices_ContainsFunc_int_int e_slices_ContainsFunc_int_int c_slices_ContainsFunc_int_int (v_ContI rfl)).cons
    k_lines_numbers f_lines_numbers e_lines_numbers c_lines_numbers (v_numbers rfl)).cons
    k_lines_bare f_lines_bare e_lines_bare c_lines_bare v_bare).cons
    k_lines_call f_lines_call e_lines_call c_lines_call v_lcall).cons
    k_lines_Check f_lines_Check e_lines_Check c_lines_Check (v_LCheck rfl rfl rfl rfl)).cons
    k_reredoskeep_Picked f_reredoskeep_Picked e_reredoskeep_Picked c_reredoskeep_Picked (v_Picked rfl)).cons
    k_cluster_Run f_cluster_Run e_cluster_Run c_cluster_Run (v_Run rfl rfl))
theorem fok_TopBad : FOK Tryz.prog (tb gl0 tabT) 3 sp_TopBad := FOK.of tabT_ok f_reredostop_TopBad c_reredostop_TopBad (v_TopBad rfl rfl rfl rfl)
end Go.Proofs.YtgefnajcfbakbaaGreatDoor
