/-
  The functions of desks are what the specifications say, for the given program. Conditions: that the table of kinds reads as the text has it.
-/
import Derived.Test.YtchbnpjegacobaaDoorDkC
import Derived.Test.YtchbnpjegacobaaDoorCoQ
import Derived.Test.YtchbnpjegacobaaDoorCoR
import Derived.Test.YtchbnpjegacobaaDoorCoU
set_option linter.unusedVariables false
namespace Go.Proofs.YtchbnpjegacobaaDoor
open Go Go.Vcg

def glM : Nat → D := fun i => if i = 0 then .ad 8 msgT 0 0 else .any
noncomputable def tabN3 : List (Nat × Sp) := [(n_reredoskeep_back, sp_back), (n_reredoskeep_two, sp_two), (n_coord_Hear, sp_Hear), (n_coord_Call, sp_Call), (n_coord_work_refuse, sp_refuse), (n_coord_work_sure, sp_sure), (n_coord_work_answered, sp_answered), (n_coord_work_acked, sp_acked), (n_coord_work_asked, sp_asked), (n_coord_work_task, sp_tsk), (n_coord_work_begun, sp_begun), (n_coord_work_committing, sp_committing), (n_coord_work_again, sp_again), (n_coord_work_commit, sp_commit), (n_coord_work_end, sp_end), (n_coord_work_tell, sp_tell), (n_coord_work_sites, sp_sites), (n_slices_Sort_int_int, sp_Sort), (n_math_bits_Len, sp_Len), (n_math_bits_Len64, sp_Len), (n_slices_pdqsortOrdered_int, sp_Pdq), (n_slices_insertionSortOrdered_int, sp_Isort), (n_cmp_Less_int, sp_Less), (n_cmp_isNaN_int, sp_NaN), (n_coord_begin, sp_begin), (n_coord_own, sp_own), (n_slices_Clone_int_int, sp_ClnI), (n_slices_Clone_reredos_api_Task_reredos_api_Task, sp_Cln 8), (n_slices_ContainsFunc_reredos_api_Task_reredos_api_Task, sp_SomeT), (n_slices_Contains_int_int, sp_HasI), (n_slices_Index_int_int, sp_IdxI), (n_coord_work_place, sp_place), (n_slices_DeleteFunc_int_int, sp_DelI), (n_slices_IndexFunc_int_int, sp_IndexI), (n_slices_IndexFunc_reredos_api_Task_reredos_api_Task, sp_IndexT), (n_slices_IndexFunc_reredos_api_Job_reredos_api_Job, sp_IndexJ), (n_coord_work_acked_1, sp_cloI n_coord_work_acked_1), (n_coord_work_commit_1, sp_cloT n_coord_work_commit_1), (n_coord_work_place_1, sp_cloJ n_coord_work_place_1), (n_coord_work_drop, sp_drop), (n_coord_work_record, sp_record), (n_slices_Delete_reredos_api_Job_reredos_api_Job, sp_DelS 6), (n_coord_work_reply, sp_reply), (n_coord_work_send, sp_send), (n_coord_Check, sp_CCheck), (n_coord_job, sp_job), (n_coord_task, sp_task), (n_wire_CheckMessage, sp_CheckMessage), (n_wire_code, sp_code), (n_wire_ask, sp_ask), (n_wire_value, sp_value), (n_wire_key, sp_key), (n_wire_txn, sp_wtxn), (n_label_Above, sp_Above), (n_label_Check, sp_Check), (n_label_one, sp_one), (n_reredoskeep_picked, sp_picked)]

set_option maxRecDepth 10000 in
theorem tabN3_ok : TbOK Tryd.prog kf (tb glM tabN3) :=
  ((((((((((((((((((((((((((((((((((((((((((((((((((((((((((TbOK.nil : TbOK Tryd.prog kf (tb glM [])).cons
    k_reredoskeep_picked f_reredoskeep_picked e_reredoskeep_picked c_reredoskeep_picked v_picked).cons
    k_label_one f_label_one e_label_one c_label_one v_one).cons
    k_label_Check f_label_Check e_label_Check c_label_Check (v_Check rfl)).cons
    k_label_Above f_label_Above e_label_Above c_label_Above v_above).cons
    k_wire_txn f_wire_txn e_wire_txn c_wire_txn v_wtxn).cons
    k_wire_key f_wire_key e_wire_key c_wire_key v_key).cons
    k_wire_value f_wire_value e_wire_value c_wire_value v_value).cons
    k_wire_ask f_wire_ask e_wire_ask c_wire_ask v_ask).cons
    k_wire_code f_wire_code e_wire_code c_wire_code v_code).cons
    k_wire_CheckMessage f_wire_CheckMessage e_wire_CheckMessage c_wire_CheckMessage (v_CheckMessage rfl rfl rfl rfl rfl rfl rfl)).cons
    k_coord_task f_coord_task e_coord_task c_coord_task v_task).cons
    k_coord_job f_coord_job e_coord_job c_coord_job (v_job rfl)).cons
    k_coord_Check f_coord_Check e_coord_Check c_coord_Check (v_CCheck rfl rfl)).cons
    k_coord_work_send f_coord_work_send e_coord_work_send c_coord_work_send v_send).cons
    k_coord_work_reply f_coord_work_reply e_coord_work_reply c_coord_work_reply v_reply).cons
    k_slices_Delete_reredos_api_Job_reredos_api_Job f_slices_Delete_reredos_api_Job_reredos_api_Job e_slices_Delete_reredos_api_Job_reredos_api_Job c_slices_Delete_reredos_api_Job_reredos_api_Job v_DelJ).cons
    k_coord_work_record f_coord_work_record e_coord_work_record c_coord_work_record v_record).cons
    k_coord_work_drop f_coord_work_drop e_coord_work_drop c_coord_work_drop (v_drop rfl)).cons
    k_coord_work_place_1 f_coord_work_place_1 e_coord_work_place_1 c_coord_work_place_1 v_place_1).cons
    k_coord_work_commit_1 f_coord_work_commit_1 e_coord_work_commit_1 c_coord_work_commit_1 v_commit_1).cons
    k_coord_work_acked_1 f_coord_work_acked_1 e_coord_work_acked_1 c_coord_work_acked_1 v_acked_1).cons
    k_slices_IndexFunc_reredos_api_Job_reredos_api_Job f_slices_IndexFunc_reredos_api_Job_reredos_api_Job e_slices_IndexFunc_reredos_api_Job_reredos_api_Job c_slices_IndexFunc_reredos_api_Job_reredos_api_Job (v_IndexJ (fun f caps g h => by cases h <;> rfl))).cons
    k_slices_IndexFunc_reredos_api_Task_reredos_api_Task f_slices_IndexFunc_reredos_api_Task_reredos_api_Task e_slices_IndexFunc_reredos_api_Task_reredos_api_Task c_slices_IndexFunc_reredos_api_Task_reredos_api_Task (v_IndexT (fun f caps g h => by cases h <;> rfl))).cons
    k_slices_IndexFunc_int_int f_slices_IndexFunc_int_int e_slices_IndexFunc_int_int c_slices_IndexFunc_int_int (v_IndexI (fun f caps g h => by cases h <;> rfl))).cons
    k_slices_DeleteFunc_int_int f_slices_DeleteFunc_int_int e_slices_DeleteFunc_int_int c_slices_DeleteFunc_int_int (v_DelI (fun f caps g h => by cases h <;> rfl) rfl)).cons
    k_coord_work_place f_coord_work_place e_coord_work_place c_coord_work_place (v_place (fun f caps g h => by cases h <;> rfl) rfl)).cons
    k_slices_Index_int_int f_slices_Index_int_int e_slices_Index_int_int c_slices_Index_int_int v_IdxI).cons
    k_slices_Contains_int_int f_slices_Contains_int_int e_slices_Contains_int_int c_slices_Contains_int_int (v_HasI rfl)).cons
    k_slices_ContainsFunc_reredos_api_Task_reredos_api_Task f_slices_ContainsFunc_reredos_api_Task_reredos_api_Task e_slices_ContainsFunc_reredos_api_Task_reredos_api_Task c_slices_ContainsFunc_reredos_api_Task_reredos_api_Task (v_SomeT rfl)).cons
    k_slices_Clone_reredos_api_Task_reredos_api_Task f_slices_Clone_reredos_api_Task_reredos_api_Task e_slices_Clone_reredos_api_Task_reredos_api_Task c_slices_Clone_reredos_api_Task_reredos_api_Task v_ClnT).cons
    k_slices_Clone_int_int f_slices_Clone_int_int e_slices_Clone_int_int c_slices_Clone_int_int v_ClnI).cons
    k_coord_own f_coord_own e_coord_own c_coord_own (v_own rfl rfl)).cons
    k_coord_begin f_coord_begin e_coord_begin c_coord_begin (v_begin rfl rfl)).cons
    k_cmp_isNaN_int f_cmp_isNaN_int e_cmp_isNaN_int c_cmp_isNaN_int v_NaN).cons
    k_cmp_Less_int f_cmp_Less_int e_cmp_Less_int c_cmp_Less_int (v_Less rfl)).cons
    k_slices_insertionSortOrdered_int f_slices_insertionSortOrdered_int e_slices_insertionSortOrdered_int c_slices_insertionSortOrdered_int (v_Isort rfl)).cons
    k_slices_pdqsortOrdered_int f_slices_pdqsortOrdered_int e_slices_pdqsortOrdered_int c_slices_pdqsortOrdered_int (v_Pdq rfl)).cons
    k_math_bits_Len64 f_math_bits_Len64 e_math_bits_Len64 c_math_bits_Len64 v_Len64).cons
    k_math_bits_Len f_math_bits_Len e_math_bits_Len c_math_bits_Len (v_Len rfl)).cons
    k_slices_Sort_int_int f_slices_Sort_int_int e_slices_Sort_int_int c_slices_Sort_int_int (v_Sort rfl rfl)).cons
    k_coord_work_sites f_coord_work_sites e_coord_work_sites c_coord_work_sites (v_sites rfl rfl)).cons
    k_coord_work_tell f_coord_work_tell e_coord_work_tell c_coord_work_tell (v_tell rfl)).cons
    k_coord_work_end f_coord_work_end e_coord_work_end c_coord_work_end (v_end rfl rfl rfl)).cons
    k_coord_work_commit f_coord_work_commit e_coord_work_commit c_coord_work_commit (v_commit rfl rfl rfl rfl rfl rfl rfl)).cons
    k_coord_work_again f_coord_work_again e_coord_work_again c_coord_work_again (v_again rfl)).cons
    k_coord_work_committing f_coord_work_committing e_coord_work_committing c_coord_work_committing (v_committing rfl rfl)).cons
    k_coord_work_begun f_coord_work_begun e_coord_work_begun c_coord_work_begun (v_begun rfl rfl)).cons
    k_coord_work_task f_coord_work_task e_coord_work_task c_coord_work_task (v_tsk rfl)).cons
    k_coord_work_asked f_coord_work_asked e_coord_work_asked c_coord_work_asked (v_asked rfl rfl)).cons
    k_coord_work_acked f_coord_work_acked e_coord_work_acked c_coord_work_acked (v_acked rfl rfl rfl)).cons
    k_coord_work_answered f_coord_work_answered e_coord_work_answered c_coord_work_answered (v_answered rfl rfl)).cons
    k_coord_work_sure f_coord_work_sure e_coord_work_sure c_coord_work_sure (v_sure rfl rfl rfl)).cons
    k_coord_work_refuse f_coord_work_refuse e_coord_work_refuse c_coord_work_refuse (v_refuse rfl rfl)).cons
    k_coord_Call f_coord_Call e_coord_Call c_coord_Call (v_Call rfl rfl rfl rfl rfl rfl rfl rfl)).cons
    k_coord_Hear f_coord_Hear e_coord_Hear c_coord_Hear (v_Hear rfl rfl rfl rfl rfl rfl rfl)).cons
    k_reredoskeep_two f_reredoskeep_two e_reredoskeep_two c_reredoskeep_two (v_two rfl)).cons
    k_reredoskeep_back f_reredoskeep_back e_reredoskeep_back c_reredoskeep_back (v_back rfl rfl))
end Go.Proofs.YtchbnpjegacobaaDoor
