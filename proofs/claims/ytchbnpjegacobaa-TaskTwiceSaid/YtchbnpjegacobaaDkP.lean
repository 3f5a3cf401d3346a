/-
  The functions of desks that GetDown and TaskTwice reach are what the specifications say, and the two laws, for the given program. No conditions.
-/
import Derived.Test.YtchbnpjegacobaaDkGetDown
import Derived.Test.YtchbnpjegacobaaDkTaskTwice
import Derived.Test.YtchbnpjegacobaaCoU
set_option linter.unusedVariables false
namespace Go.Proofs.Ytchbnpjegacobaa
open Go Go.Vcg

noncomputable def tabP : List (Nat × Sp) := [(n_reredoskeep_sameDesk, sp_sameDesk), (n_reredoskeep_two, sp_two), (n_reredoskeep_sameInts, sp_sameIntsR), (n_coord_Call, sp_Call), (n_coord_work_refuse, sp_refuse), (n_coord_work_task, sp_tsk), (n_coord_work_begun, sp_begun), (n_coord_work_committing, sp_committing), (n_coord_work_again, sp_again), (n_coord_work_commit, sp_commit), (n_coord_work_end, sp_end), (n_coord_work_tell, sp_tell), (n_coord_work_sites, sp_sites), (n_slices_Sort_int_int, sp_Sort), (n_math_bits_Len, sp_Len), (n_math_bits_Len64, sp_Len), (n_slices_pdqsortOrdered_int, sp_Pdq), (n_slices_insertionSortOrdered_int, sp_Isort), (n_cmp_Less_int, sp_Less), (n_cmp_isNaN_int, sp_NaN), (n_coord_begin, sp_begin), (n_coord_own, sp_own), (n_slices_Clone_int_int, sp_ClnI), (n_slices_Clone_reredos_api_Task_reredos_api_Task, sp_Cln 8), (n_slices_ContainsFunc_reredos_api_Task_reredos_api_Task, sp_SomeT), (n_slices_Contains_int_int, sp_HasI), (n_slices_Index_int_int, sp_IdxI), (n_coord_work_place, sp_place), (n_slices_IndexFunc_reredos_api_Task_reredos_api_Task, sp_IndexT), (n_slices_IndexFunc_reredos_api_Job_reredos_api_Job, sp_IndexJ), (n_coord_work_commit_1, sp_cloT n_coord_work_commit_1), (n_coord_work_place_1, sp_cloJ n_coord_work_place_1), (n_coord_work_drop, sp_drop), (n_coord_work_record, sp_record), (n_slices_Delete_reredos_api_Job_reredos_api_Job, sp_DelS 6), (n_coord_work_reply, sp_reply), (n_coord_work_send, sp_send), (n_coord_Check, sp_CCheck), (n_coord_job, sp_job), (n_coord_task, sp_task), (n_label_Above, sp_Above), (n_label_Check, sp_Check), (n_label_one, sp_one), (n_reredoskeep_picked, sp_picked)]

set_option maxRecDepth 10000 in
theorem tabP_ok : TbOK Try.prog kf (tb gl0 tabP) :=
  (((((((((((((((((((((((((((((((((((((((((((((TbOK.nil : TbOK Try.prog kf (tb gl0 [])).cons
    k_reredoskeep_picked f_reredoskeep_picked e_reredoskeep_picked c_reredoskeep_picked v_picked).cons
    k_label_one f_label_one e_label_one c_label_one v_one).cons
    k_label_Check f_label_Check e_label_Check c_label_Check (v_Check rfl)).cons
    k_label_Above f_label_Above e_label_Above c_label_Above v_above).cons
    k_coord_task f_coord_task e_coord_task c_coord_task v_task).cons
    k_coord_job f_coord_job e_coord_job c_coord_job (v_job rfl)).cons
    k_coord_Check f_coord_Check e_coord_Check c_coord_Check (v_CCheck rfl rfl)).cons
    k_coord_work_send f_coord_work_send e_coord_work_send c_coord_work_send v_send).cons
    k_coord_work_reply f_coord_work_reply e_coord_work_reply c_coord_work_reply v_reply).cons
    k_slices_Delete_reredos_api_Job_reredos_api_Job f_slices_Delete_reredos_api_Job_reredos_api_Job e_slices_Delete_reredos_api_Job_reredos_api_Job c_slices_Delete_reredos_api_Job_reredos_api_Job v_DelJ).cons
    k_coord_work_record f_coord_work_record e_coord_work_record c_coord_work_record v_record).cons
    k_coord_work_drop f_coord_work_drop e_coord_work_drop c_coord_work_drop (v_drop rfl)).cons
    k_coord_work_place_1 f_coord_work_place_1 e_coord_work_place_1 c_coord_work_place_1 v_place_1).cons
    k_coord_work_commit_1 f_coord_work_commit_1 e_coord_work_commit_1 c_coord_work_commit_1 v_commit_1).cons
    k_slices_IndexFunc_reredos_api_Job_reredos_api_Job f_slices_IndexFunc_reredos_api_Job_reredos_api_Job e_slices_IndexFunc_reredos_api_Job_reredos_api_Job c_slices_IndexFunc_reredos_api_Job_reredos_api_Job (v_IndexJ (fun f caps g h => by cases h <;> rfl))).cons
    k_slices_IndexFunc_reredos_api_Task_reredos_api_Task f_slices_IndexFunc_reredos_api_Task_reredos_api_Task e_slices_IndexFunc_reredos_api_Task_reredos_api_Task c_slices_IndexFunc_reredos_api_Task_reredos_api_Task (v_IndexT (fun f caps g h => by cases h <;> rfl))).cons
    k_coord_work_place f_coord_work_place e_coord_work_place c_coord_work_place (v_place (fun f caps g h => by cases h <;> rfl) rfl)).cons
    k_slices_Index_int_int f_slices_Index_int_int e_slices_Index_int_int c_slices_Index_int_int v_IdxI).cons
    k_slices_Contains_int_int f_slices_Contains_int_int e_slices_Contains_int_int c_slices_Contains_int_int (v_HasI rfl)).cons
    k_slices_ContainsFunc_reredos_api_Task_reredos_api_Task f_slices_ContainsFunc_reredos_api_Task_reredos_api_Task e_slices_ContainsFunc_reredos_api_Task_reredos_api_Task c_slices_ContainsFunc_reredos_api_Task_reredos_api_Task (v_SomeT rfl)).cons
    k_slices_Clone_reredos_api_Task_reredos_api_Task f_slices_Clone_reredos_api_Task_reredos_api_Task e_slices_Clone_reredos_api_Task_reredos_api_Task c_slices_Clone_reredos_api_Task_reredos_api_Task v_ClnT).cons
    k_slices_Clone_int_int f_slices_Clone_int_int e_slices_Clone_int_int c_slices_Clone_int_int v_ClnI).cons
    k_coord_own f_coord_own e_coord_own c_coord_own (v_own rfl rfl)).cons
    k_coord_begin f_coord_begin e_coord_begin c_coord_begin (v_begin rfl rfl)).cons
    k_cmp_isNaN_int f_cmp_isNaN_int e_cmp_isNaN_int c_cmp_isNaN_int v_NaN).cons
    k_cmp_Less_int f_cmp_Less_int e_cmp_Less_int c_cmp_Less_int (v_Less rfl)).cons
    k_slices_insertionSortOrdered_int f_slices_insertionSortOrdered_int e_slices_insertionSortOrdered_int c_slices_insertionSortOrdered_int (v_Isort rfl)).cons
    k_slices_pdqsortOrdered_int f_slices_pdqsortOrdered_int e_slices_pdqsortOrdered_int c_slices_pdqsortOrdered_int (v_Pdq rfl)).cons
    k_math_bits_Len64 f_math_bits_Len64 e_math_bits_Len64 c_math_bits_Len64 v_Len64).cons
    k_math_bits_Len f_math_bits_Len e_math_bits_Len c_math_bits_Len (v_Len rfl)).cons
    k_slices_Sort_int_int f_slices_Sort_int_int e_slices_Sort_int_int c_slices_Sort_int_int (v_Sort rfl rfl)).cons
    k_coord_work_sites f_coord_work_sites e_coord_work_sites c_coord_work_sites (v_sites rfl rfl)).cons
    k_coord_work_tell f_coord_work_tell e_coord_work_tell c_coord_work_tell (v_tell rfl)).cons
    k_coord_work_end f_coord_work_end e_coord_work_end c_coord_work_end (v_end rfl rfl rfl)).cons
    k_coord_work_commit f_coord_work_commit e_coord_work_commit c_coord_work_commit (v_commit rfl rfl rfl rfl rfl rfl rfl)).cons
    k_coord_work_again f_coord_work_again e_coord_work_again c_coord_work_again (v_again rfl)).cons
    k_coord_work_committing f_coord_work_committing e_coord_work_committing c_coord_work_committing (v_committing rfl rfl)).cons
    k_coord_work_begun f_coord_work_begun e_coord_work_begun c_coord_work_begun (v_begun rfl rfl)).cons
    k_coord_work_task f_coord_work_task e_coord_work_task c_coord_work_task (v_tsk rfl)).cons
    k_coord_work_refuse f_coord_work_refuse e_coord_work_refuse c_coord_work_refuse (v_refuse rfl rfl)).cons
    k_coord_Call f_coord_Call e_coord_Call c_coord_Call (v_Call rfl rfl rfl rfl rfl rfl rfl rfl)).cons
    k_reredoskeep_sameInts f_reredoskeep_sameInts e_reredoskeep_sameInts c_reredoskeep_sameInts v_sameIntsR).cons
    k_reredoskeep_two f_reredoskeep_two e_reredoskeep_two c_reredoskeep_two (v_two rfl)).cons
    k_reredoskeep_sameDesk f_reredoskeep_sameDesk e_reredoskeep_sameDesk c_reredoskeep_sameDesk (v_sameDesk rfl))
theorem fok_GetDown : FOK Try.prog (tb gl0 tabP) n_reredoskeep_GetDown sp_GetDown := FOK.of tabP_ok f_reredoskeep_GetDown c_reredoskeep_GetDown (v_GetDown rfl rfl rfl)
theorem fok_TaskTwice : FOK Try.prog (tb gl0 tabP) n_reredoskeep_TaskTwice sp_TaskTwice := FOK.of tabP_ok f_reredoskeep_TaskTwice c_reredoskeep_TaskTwice (v_TaskTwice rfl rfl rfl rfl)
end Go.Proofs.Ytchbnpjegacobaa
