/-
  The functions on stores are what the specifications say, for the given program. Conditions: that the table of kinds reads as the text has it.
-/
import Derived.Test.YtpkabalijooeaaaDoorRcH
set_option linter.unusedVariables false
namespace Go.Proofs.YtpkabalijooeaaaDoor
open Go Go.Vcg

def glR : Nat → D := fun i => if i = 0 then .ad 8 recT 0 0 else .any
noncomputable def tabR : List (Nat × Sp) := [(n_reredoskeep_sameInts, sp_sameIntsR), (n_coord_Check, sp_CCheck), (n_coord_job, sp_job), (n_coord_task, sp_task), (n_reredoskeep_records, sp_records), (n_reredoskeep_Record, sp_Record), (n_reredoskeep_Txn, sp_Txn), (n_recover_Rebuild, sp_Rebuild), (n_recover_memory_one, sp_mone), (n_recover_memory_committed, sp_com), (n_recover_memory_end, sp_mend), (n_slices_DeleteFunc_reredos_api_Job_reredos_api_Job, sp_DelJ), (n_slices_IndexFunc_reredos_api_Job_reredos_api_Job, sp_IdxJ), (n_recover_memory_one_1, sp_one1), (n_slices_Insert_reredos_api_Job_reredos_api_Job, sp_InsJ), (n_slices_Clone_int_int, sp_CloneInt), (n_slices_BinarySearchFunc_reredos_api_Job_reredos_api_Job_int, sp_BinJ), (n_recover_memory_committed_1, sp_cmt1), (n_wire_CheckRecord, sp_CheckRecord), (n_wire_ask, sp_ask), (n_wire_value, sp_value), (n_wire_key, sp_key), (n_wire_txn, sp_wtxn), (n_reredoskeep_two, sp_two), (n_label_Check, sp_Check), (n_label_one, sp_one), (n_store_Writes, sp_Writes), (n_store_End, sp_End), (n_slices_Insert_reredos_api_Item_reredos_api_Item, sp_Ins), (n_slices_DeleteFunc_reredos_api_Doubt_reredos_api_Doubt, sp_DelD), (n_slices_DeleteFunc_reredos_api_Lock_reredos_api_Lock, sp_DelL), (n_store_Write, sp_Write), (n_store_hand, sp_hand), (n_store_call, sp_call), (n_store_Check, sp_SCheck), (n_store_locks, sp_locks), (n_store_doubts, sp_doubts), (n_store_items, sp_items), (n_store_busy, sp_busy), (n_store_lock, sp_lock), (n_store_doubted, sp_doubted), (n_store_txn, sp_stxn), (n_store_own, sp_own), (n_slices_Clone_reredos_api_Txn_reredos_api_Txn, sp_Clone 2), (n_slices_Clone_reredos_api_Doubt_reredos_api_Doubt, sp_Clone 3), (n_slices_Clone_reredos_api_Lock_reredos_api_Lock, sp_Clone 6), (n_slices_Clone_reredos_api_Item_reredos_api_Item, sp_Clone 3), (n_slices_Contains_reredos_api_Txn_reredos_api_Txn, sp_ContT), (n_slices_Index_reredos_api_Txn_reredos_api_Txn, sp_IndexT), (n_slices_ContainsFunc_reredos_api_Doubt_reredos_api_Doubt, sp_ContD), (n_slices_ContainsFunc_reredos_api_Lock_reredos_api_Lock, sp_ContL), (n_slices_IndexFunc_reredos_api_Doubt_reredos_api_Doubt, sp_IndexD), (n_slices_IndexFunc_reredos_api_Lock_reredos_api_Lock, sp_IndexL), (n_store_End_2, sp_cloD n_store_End_2), (n_store_doubted_1, sp_cloD n_store_doubted_1), (n_store_End_1, sp_cloL n_store_End_1), (n_store_doubts_1, sp_cloL n_store_doubts_1), (n_store_busy_1, sp_cloL n_store_busy_1), (n_store_lock_1, sp_cloL n_store_lock_1), (n_store_item, sp_item), (n_store_at, sp_at), (n_slices_BinarySearchFunc_reredos_api_Item_reredos_api_Item_int, sp_BinS), (n_store_at_1, sp_at1), (n_cmp_Compare_int, sp_Compare), (n_cmp_isNaN_int, sp_isNaN), (n_reredoskeep_picked, sp_picked)]

set_option maxRecDepth 10000 in
theorem tabR_ok : TbOK Tryd.prog kf (tb glR tabR) :=
  (((((((((((((((((((((((((((((((((((((((((((((((((((((((((((((((((((TbOK.nil (kfO_ovl (by decide) (by decide) ovl_ok) : TbOK Tryd.prog kf (tb glR [])).cons
    k_reredoskeep_picked f_reredoskeep_picked e_reredoskeep_picked c_reredoskeep_picked v_picked).cons
    k_cmp_isNaN_int f_cmp_isNaN_int e_cmp_isNaN_int c_cmp_isNaN_int v_isNaN).cons
    k_cmp_Compare_int f_cmp_Compare_int e_cmp_Compare_int c_cmp_Compare_int (v_Compare rfl)).cons
    k_store_at_1 f_store_at_1 e_store_at_1 c_store_at_1 (v_at1 rfl)).cons
    k_slices_BinarySearchFunc_reredos_api_Item_reredos_api_Item_int f_slices_BinarySearchFunc_reredos_api_Item_reredos_api_Item_int e_slices_BinarySearchFunc_reredos_api_Item_reredos_api_Item_int c_slices_BinarySearchFunc_reredos_api_Item_reredos_api_Item_int (v_BinS rfl)).cons
    k_store_at f_store_at e_store_at c_store_at (v_at rfl)).cons
    k_store_item f_store_item e_store_item c_store_item (v_item rfl)).cons
    k_store_lock_1 f_store_lock_1 e_store_lock_1 c_store_lock_1 v_lock_1).cons
    k_store_busy_1 f_store_busy_1 e_store_busy_1 c_store_busy_1 v_busy_1).cons
    k_store_doubts_1 f_store_doubts_1 e_store_doubts_1 c_store_doubts_1 v_doubts_1).cons
    k_store_End_1 f_store_End_1 e_store_End_1 c_store_End_1 v_End_1).cons
    k_store_doubted_1 f_store_doubted_1 e_store_doubted_1 c_store_doubted_1 v_doubted_1).cons
    k_store_End_2 f_store_End_2 e_store_End_2 c_store_End_2 v_End_2).cons
    k_slices_IndexFunc_reredos_api_Lock_reredos_api_Lock f_slices_IndexFunc_reredos_api_Lock_reredos_api_Lock e_slices_IndexFunc_reredos_api_Lock_reredos_api_Lock c_slices_IndexFunc_reredos_api_Lock_reredos_api_Lock (v_IndexL fun f caps g h => by cases h <;> rfl)).cons
    k_slices_IndexFunc_reredos_api_Doubt_reredos_api_Doubt f_slices_IndexFunc_reredos_api_Doubt_reredos_api_Doubt e_slices_IndexFunc_reredos_api_Doubt_reredos_api_Doubt c_slices_IndexFunc_reredos_api_Doubt_reredos_api_Doubt (v_IndexD fun f caps g h => by cases h <;> rfl)).cons
    k_slices_ContainsFunc_reredos_api_Lock_reredos_api_Lock f_slices_ContainsFunc_reredos_api_Lock_reredos_api_Lock e_slices_ContainsFunc_reredos_api_Lock_reredos_api_Lock c_slices_ContainsFunc_reredos_api_Lock_reredos_api_Lock (v_ContL rfl)).cons
    k_slices_ContainsFunc_reredos_api_Doubt_reredos_api_Doubt f_slices_ContainsFunc_reredos_api_Doubt_reredos_api_Doubt e_slices_ContainsFunc_reredos_api_Doubt_reredos_api_Doubt c_slices_ContainsFunc_reredos_api_Doubt_reredos_api_Doubt (v_ContD rfl)).cons
    k_slices_Index_reredos_api_Txn_reredos_api_Txn f_slices_Index_reredos_api_Txn_reredos_api_Txn e_slices_Index_reredos_api_Txn_reredos_api_Txn c_slices_Index_reredos_api_Txn_reredos_api_Txn v_IndexT).cons
    k_slices_Contains_reredos_api_Txn_reredos_api_Txn f_slices_Contains_reredos_api_Txn_reredos_api_Txn e_slices_Contains_reredos_api_Txn_reredos_api_Txn c_slices_Contains_reredos_api_Txn_reredos_api_Txn (v_ContT rfl)).cons
    k_slices_Clone_reredos_api_Item_reredos_api_Item f_slices_Clone_reredos_api_Item_reredos_api_Item e_slices_Clone_reredos_api_Item_reredos_api_Item c_slices_Clone_reredos_api_Item_reredos_api_Item v_CloneI).cons
    k_slices_Clone_reredos_api_Lock_reredos_api_Lock f_slices_Clone_reredos_api_Lock_reredos_api_Lock e_slices_Clone_reredos_api_Lock_reredos_api_Lock c_slices_Clone_reredos_api_Lock_reredos_api_Lock v_CloneL).cons
    k_slices_Clone_reredos_api_Doubt_reredos_api_Doubt f_slices_Clone_reredos_api_Doubt_reredos_api_Doubt e_slices_Clone_reredos_api_Doubt_reredos_api_Doubt c_slices_Clone_reredos_api_Doubt_reredos_api_Doubt v_CloneD).cons
    k_slices_Clone_reredos_api_Txn_reredos_api_Txn f_slices_Clone_reredos_api_Txn_reredos_api_Txn e_slices_Clone_reredos_api_Txn_reredos_api_Txn c_slices_Clone_reredos_api_Txn_reredos_api_Txn v_CloneT).cons
    k_store_own f_store_own e_store_own c_store_own (v_own rfl rfl rfl rfl)).cons
    k_store_txn f_store_txn e_store_txn c_store_txn v_stxn).cons
    k_store_doubted f_store_doubted e_store_doubted c_store_doubted (v_doubted rfl)).cons
    k_store_lock f_store_lock e_store_lock c_store_lock (v_lock rfl)).cons
    k_store_busy f_store_busy e_store_busy c_store_busy (v_busy rfl)).cons
    k_store_items f_store_items e_store_items c_store_items v_items).cons
    k_store_doubts f_store_doubts e_store_doubts c_store_doubts (v_doubts rfl rfl rfl)).cons
    k_store_locks f_store_locks e_store_locks c_store_locks (v_locks rfl)).cons
    k_store_Check f_store_Check e_store_Check c_store_Check (v_SCheck rfl rfl rfl)).cons
    k_store_call f_store_call e_store_call c_store_call (v_call rfl rfl)).cons
    k_store_hand f_store_hand e_store_hand c_store_hand (v_hand rfl)).cons
    k_store_Write f_store_Write e_store_Write c_store_Write (v_Write rfl rfl rfl rfl rfl rfl rfl)).cons
    k_slices_DeleteFunc_reredos_api_Lock_reredos_api_Lock f_slices_DeleteFunc_reredos_api_Lock_reredos_api_Lock e_slices_DeleteFunc_reredos_api_Lock_reredos_api_Lock c_slices_DeleteFunc_reredos_api_Lock_reredos_api_Lock (v_DelL (fun f caps g h => by cases h <;> rfl) rfl)).cons
    k_slices_DeleteFunc_reredos_api_Doubt_reredos_api_Doubt f_slices_DeleteFunc_reredos_api_Doubt_reredos_api_Doubt e_slices_DeleteFunc_reredos_api_Doubt_reredos_api_Doubt c_slices_DeleteFunc_reredos_api_Doubt_reredos_api_Doubt (v_DelD (fun f caps g h => by cases h <;> rfl) rfl)).cons
    k_slices_Insert_reredos_api_Item_reredos_api_Item f_slices_Insert_reredos_api_Item_reredos_api_Item e_slices_Insert_reredos_api_Item_reredos_api_Item c_slices_Insert_reredos_api_Item_reredos_api_Item v_Ins).cons
    k_store_End f_store_End e_store_End c_store_End (v_End rfl rfl rfl rfl rfl rfl rfl)).cons
    k_store_Writes f_store_Writes e_store_Writes c_store_Writes (v_Writes rfl)).cons
    k_label_one f_label_one e_label_one c_label_one v_one).cons
    k_label_Check f_label_Check e_label_Check c_label_Check (v_Check rfl)).cons
    k_reredoskeep_two f_reredoskeep_two e_reredoskeep_two c_reredoskeep_two (v_two rfl)).cons
    k_wire_txn f_wire_txn e_wire_txn c_wire_txn v_wtxn).cons
    k_wire_key f_wire_key e_wire_key c_wire_key v_key).cons
    k_wire_value f_wire_value e_wire_value c_wire_value v_value).cons
    k_wire_ask f_wire_ask e_wire_ask c_wire_ask v_ask).cons
    k_wire_CheckRecord f_wire_CheckRecord e_wire_CheckRecord c_wire_CheckRecord (v_CheckRecord rfl rfl rfl rfl rfl rfl)).cons
    k_recover_memory_committed_1 f_recover_memory_committed_1 e_recover_memory_committed_1 c_recover_memory_committed_1 v_cmt1).cons
    k_slices_BinarySearchFunc_reredos_api_Job_reredos_api_Job_int f_slices_BinarySearchFunc_reredos_api_Job_reredos_api_Job_int e_slices_BinarySearchFunc_reredos_api_Job_reredos_api_Job_int c_slices_BinarySearchFunc_reredos_api_Job_reredos_api_Job_int (v_BinJ rfl)).cons
    k_slices_Clone_int_int f_slices_Clone_int_int e_slices_Clone_int_int c_slices_Clone_int_int v_CloneInt).cons
    k_slices_Insert_reredos_api_Job_reredos_api_Job f_slices_Insert_reredos_api_Job_reredos_api_Job e_slices_Insert_reredos_api_Job_reredos_api_Job c_slices_Insert_reredos_api_Job_reredos_api_Job v_InsJ).cons
    k_recover_memory_one_1 f_recover_memory_one_1 e_recover_memory_one_1 c_recover_memory_one_1 v_one1).cons
    k_slices_IndexFunc_reredos_api_Job_reredos_api_Job f_slices_IndexFunc_reredos_api_Job_reredos_api_Job e_slices_IndexFunc_reredos_api_Job_reredos_api_Job c_slices_IndexFunc_reredos_api_Job_reredos_api_Job (v_IdxJ rfl rfl)).cons
    k_slices_DeleteFunc_reredos_api_Job_reredos_api_Job f_slices_DeleteFunc_reredos_api_Job_reredos_api_Job e_slices_DeleteFunc_reredos_api_Job_reredos_api_Job c_slices_DeleteFunc_reredos_api_Job_reredos_api_Job (v_DelJ rfl rfl rfl)).cons
    k_recover_memory_end f_recover_memory_end e_recover_memory_end c_recover_memory_end (v_mend rfl)).cons
    k_recover_memory_committed f_recover_memory_committed e_recover_memory_committed c_recover_memory_committed (v_com rfl rfl rfl)).cons
    k_recover_memory_one f_recover_memory_one e_recover_memory_one c_recover_memory_one (v_mone rfl rfl rfl rfl)).cons
    k_recover_Rebuild f_recover_Rebuild e_recover_Rebuild c_recover_Rebuild (v_Rebuild rfl rfl rfl)).cons
    k_reredoskeep_Txn f_reredoskeep_Txn e_reredoskeep_Txn c_reredoskeep_Txn (v_Txn rfl)).cons
    k_reredoskeep_Record f_reredoskeep_Record e_reredoskeep_Record c_reredoskeep_Record (v_Record rfl rfl)).cons
    k_reredoskeep_records f_reredoskeep_records e_reredoskeep_records c_reredoskeep_records (v_records rfl)).cons
    k_coord_task f_coord_task e_coord_task c_coord_task v_task).cons
    k_coord_job f_coord_job e_coord_job c_coord_job (v_job rfl)).cons
    k_coord_Check f_coord_Check e_coord_Check c_coord_Check (v_CCheck rfl rfl)).cons
    k_reredoskeep_sameInts f_reredoskeep_sameInts e_reredoskeep_sameInts c_reredoskeep_sameInts v_sameIntsR)
end Go.Proofs.YtpkabalijooeaaaDoor
