/-
  The functions that TopIdle reaches are what the specifications say, and the law, for the given program. No conditions.
-/
import Derived.Test.YtgioabhamihfmaaGreatDoorTiG
import Derived.Test.YtgioabhamihfmaaGreatDoorTiH
import Derived.Test.YtgioabhamihfmaaGreatDoorTiM
import Derived.Test.YtgioabhamihfmaaGreatDoorTiI
import Derived.Test.YtgioabhamihfmaaGreatDoorTiO
import Derived.Test.YtgioabhamihfmaaGreatDoorTiL
set_option linter.unusedVariables false
namespace Go.Proofs.YtgioabhamihfmaaGreatDoor
open Go Go.Vcg

def glT : Nat → D := fun i => if i = 1 then .ad 8 recT 0 0 else gl0 i
noncomputable def tabT : List (Nat × Sp) := [(n_reredostop_ran, sp_Ran), (n_reredostop_sameStore, sp_Same0), (n_cluster_Run, sp_RunI), (n_slices_Clone_bool_bool, sp_ClBool), (n_cluster_cluster_view, sp_View0), (n_cluster_copyOf, sp_Copy0), (n_slices_Clone_reredos_api_Note_reredos_api_Note, (sp_Cl0 4)), (n_slices_Clone_string_string, (sp_Cl0 1)), (n_slices_Clone_reredos_api_Reply_reredos_api_Reply, (sp_Cl0 6)), (n_cluster_cluster_act, sp_Act0), (n_cluster_cluster_take, sp_CTake), (n_cluster_cluster_start, sp_Start0), (n_cluster_cluster_crash, sp_Crash0), (n_cluster_cluster_tick, sp_Tick0), (n_cluster_cluster_turn, sp_CTurn), (n_cluster_cluster_answer, sp_CAns), (n_cluster_cluster_send, sp_CSend), (n_cluster_cluster_write, sp_CWrite), (n_slices_ContainsFunc_reredos_api_Record_reredos_api_Record, sp_Has0), (n_slices_IndexFunc_reredos_api_Record_reredos_api_Record, sp_Idx0), (n_cluster_fresh, sp_Fresh), (n_recover_Rebuild, sp_Reb0), (n_coord_Tick, sp_CTick0), (n_coord_begin, sp_Beg0), (n_coord_own, sp_DOwn0), (n_coord_Check, sp_DChk0), (n_part_Tick, sp_PTick0), (n_part_site_check, sp_Site0), (n_part_own, sp_POwn0), (n_store_Age, sp_Age0), (n_store_own, sp_SOwn0), (n_tape_Recover, sp_Rcv0), (n_wire_DecodeRecord, sp_Dec0), (n_wire_reader_end, sp_REnd0), (n_wire_reader_kind, sp_RKind0), (n_wire_reader_txn, sp_RTxn0), (n_wire_reader_take, sp_Take0), (n_store_Check, sp_SChk0), (n_store_doubts, (sp_B0 (.agg eSto))), (n_store_locks, (sp_B0 (.agg eSto))), (n_store_items, (sp_B0 (.fz 3 []))), (n_slices_Clone_reredos_api_Txn_reredos_api_Txn, (sp_Cl0 2)), (n_slices_Clone_reredos_api_Doubt_reredos_api_Doubt, (sp_Cl0 3)), (n_slices_Clone_reredos_api_Lock_reredos_api_Lock, (sp_Cl0 6)), (n_slices_Clone_reredos_api_Item_reredos_api_Item, (sp_Cl0 3)), (n_tape_Crash, sp_TCrash0), (n_tape_open, sp_TOpen0), (n_slices_Clone_byte_byte, (sp_Cl0 1)), (n_net_Send, sp_NSend0), (n_net_Take, sp_NTake0), (n_net_Empty, sp_NEmpty), (n_net_own, sp_NOwn0), (n_net_Check, sp_NCheck0), (n_slices_Clone_reredos_api_Message_reredos_api_Message, (sp_Cl0 12)), (n_lines_Check, sp_LCheck), (n_lines_call, sp_lcall), (n_lines_bare, sp_bare), (n_lines_numbers, sp_numbers), (n_slices_ContainsFunc_int_int, sp_ContI), (n_slices_IndexFunc_int_int, sp_IndexI), (n_lines_numbers_1, sp_num1), (n_label_Check, sp_Check), (n_label_one, sp_one), (n_reredoskeep_Config, sp_Config), (n_reredoskeep_Acts, sp_Acts), (n_reredoskeep_typed, sp_typed), (n_reredoskeep_ask, sp_ask), (n_reredoskeep_dec, sp_dec), (n_reredoskeep_Lab, sp_Lab), (n_reredoskeep_picked, sp_picked)]
set_option maxRecDepth 100000 in
theorem tabT_ok : TbOK Tryz.prog kf (tb glT tabT) :=
  (((((((((((((((((((((((((((((((((((((((((((((((((((((((((((((((((((((((TbOK.nil : TbOK Tryz.prog kf (tb glT [])).consW
    w_reredoskeep_picked v_picked).consW
    w_reredoskeep_Lab (v_Lab rfl)).consW
    w_reredoskeep_dec v_dec).consW
    w_reredoskeep_ask (v_ask rfl)).consW
    w_reredoskeep_typed (v_typed rfl rfl)).consW
    w_reredoskeep_Acts (v_Acts rfl rfl rfl)).consW
    w_reredoskeep_Config (v_Config rfl rfl)).consW
    w_label_one v_one).consW
    w_label_Check (v_Check rfl)).consW
    w_lines_numbers_1 v_num1).consW
    w_slices_IndexFunc_int_int (v_IndexI rfl)).consW
    w_slices_ContainsFunc_int_int (v_ContI rfl)).consW
    w_lines_numbers (v_numbers rfl)).consW
    w_lines_bare v_bare).consW
    w_lines_call v_lcall).consW
    w_lines_Check (v_LCheck rfl rfl rfl rfl)).consW
    w_slices_Clone_reredos_api_Message_reredos_api_Message v_ClM).consW
    w_net_Check (v_NCheck0 rfl)).consW
    w_net_own (v_NOwn0 rfl)).consW
    w_net_Empty (v_NEmpty rfl)).consW
    w_net_Take (v_NTake0 rfl rfl)).consW
    w_net_Send (v_NSend0 rfl rfl)).consW
    w_slices_Clone_byte_byte v_ClB).consW
    w_tape_open (v_TOpen0 rfl)).consW
    w_tape_Crash (v_TCrash0 rfl)).consW
    w_slices_Clone_reredos_api_Item_reredos_api_Item v_ClI).consW
    w_slices_Clone_reredos_api_Lock_reredos_api_Lock v_ClL).consW
    w_slices_Clone_reredos_api_Doubt_reredos_api_Doubt v_ClD).consW
    w_slices_Clone_reredos_api_Txn_reredos_api_Txn v_ClT).consW
    w_store_items v_items0).consW
    w_store_locks v_locks0).consW
    w_store_doubts v_doubts0).consW
    w_store_Check (v_SChk0 rfl rfl rfl)).consW
    w_wire_reader_take v_Take0).consW
    w_wire_reader_txn (v_RTxn0 rfl)).consW
    w_wire_reader_kind (v_RKind0 rfl)).consW
    w_wire_reader_end v_REnd0).consW
    w_wire_DecodeRecord (v_Dec0 rfl rfl rfl rfl rfl rfl)).consW
    w_tape_Recover (v_Rcv0 rfl rfl)).consW
    w_store_own (v_SOwn0 rfl rfl rfl rfl)).consW
    w_store_Age (v_Age0 rfl rfl)).consW
    w_part_own (v_POwn0 rfl rfl rfl rfl)).consW
    w_part_site_check (v_Site0 rfl rfl)).consW
    w_part_Tick (v_PTick0 rfl rfl rfl)).consW
    w_coord_Check (v_DChk0 rfl)).consW
    w_coord_own v_DOwn0).consW
    w_coord_begin (v_Beg0 rfl rfl)).consW
    w_coord_Tick (v_CTick0 rfl)).consW
    w_recover_Rebuild (v_Reb0 rfl)).consW
    w_cluster_fresh (v_Fresh rfl)).consW
    w_slices_IndexFunc_reredos_api_Record_reredos_api_Record v_Idx0).consW
    w_slices_ContainsFunc_reredos_api_Record_reredos_api_Record (v_Has0 rfl)).consW
    w_cluster_cluster_write (v_CWrite rfl)).consW
    w_cluster_cluster_send (v_CSend rfl)).consW
    w_cluster_cluster_answer (v_CAns rfl rfl)).consW
    w_cluster_cluster_turn (v_CTurn rfl rfl)).consW
    w_cluster_cluster_tick (v_Tick0 rfl rfl rfl rfl)).consW
    w_cluster_cluster_crash (v_Crash0 rfl)).consW
    w_cluster_cluster_start (v_Start0 rfl rfl)).consW
    w_take2 (v_CTake rfl)).consW
    w_cluster_cluster_act (v_Act0 rfl rfl rfl rfl)).consW
    w_slices_Clone_reredos_api_Reply_reredos_api_Reply v_ClR).consW
    w_slices_Clone_string_string v_ClS).consW
    w_slices_Clone_reredos_api_Note_reredos_api_Note v_ClN).consW
    w_cluster_copyOf (v_Copy0 rfl rfl rfl rfl rfl)).consW
    w_cluster_cluster_view (v_View0 rfl rfl rfl rfl rfl rfl)).consW
    w_slices_Clone_bool_bool v_ClBool).consW
    w_cluster_Run (v_RunI rfl rfl rfl rfl rfl rfl)).consW
    w_reredostop_sameStore v_Same0).consW
    w_reredostop_ran (v_Ran rfl))
theorem fok_TopIdle : FOK Tryz.prog (tb glT tabT) 9 sp_TopIdle := FOK.ofW tabT_ok w_reredostop_TopIdle (v_TopIdle rfl rfl rfl rfl)
end Go.Proofs.YtgioabhamihfmaaGreatDoor
