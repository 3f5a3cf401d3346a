/-
  The functions that console.Show reaches are what the specifications say, for the given program. Conditions: that the table of the powers of ten holds what the text lays.
-/
import Derived.Test.YtghehknnaifoeaaDoorStE
import Derived.Test.YtghehknnaifoeaaDoorShB
import Derived.Test.YtghehknnaifoeaaDoorShF
import Derived.Test.YtghehknnaifoeaaDoorCs3
set_option linter.unusedVariables false
namespace Go.Proofs.YtghehknnaifoeaaDoor
open Go Go.Vcg

def glP : Nat → D := fun i => if i = 0 then .xad pow10C else .any
theorem k_lib {n : Nat} (hn : n < 1000000) : ∀ g, kf g = n → g = n := kfO_lt hn
theorem k_libh {n : Nat} (hn : n < 1000000) : ∀ g, kf g = 1000000 + n → g = n := kfO_ge hn (by decide) (by decide)
noncomputable def tab0 : List (Nat × Sp) := [(n_strings_Builder_String, sp_BString 62 5), (n_strings_Builder_WriteByte, sp_WriteByte 62 5), (n_strings_Builder_WriteString, sp_WriteString 62 5), (n_strconv_Itoa, sp_Itoa)]
set_option maxRecDepth 10000 in
theorem tab0_ok : TbOK Tryd.prog kf (tb glP tab0) :=
  ((((TbOK.nil (kfO_ovl (by decide) (by decide) ovl_ok) : TbOK Tryd.prog kf (tb glP [])).consG
    (k_lib (n := 28) (by decide)) (Vcg.enters_of Tryd.func28 (by kernel_rfl) (by kernel_rfl)) (fok_Itoa rfl) (.inl rfl)).consG
    (k_libh (n := 17) (by decide)) (Vcg.enters_of Tryd.func17 (by kernel_rfl) (by kernel_rfl)) fok_WriteString (.inr (.inl rfl))).consG
    (k_libh (n := 29) (by decide)) (Vcg.enters_of Tryd.func29 (by kernel_rfl) (by kernel_rfl)) fok_WriteByte (.inr (.inl rfl))).consG
    (k_libh (n := 18) (by decide)) (Vcg.enters_of Tryd.func18 (by kernel_rfl) (by kernel_rfl)) fok_BString (.inr (.inl rfl))
noncomputable def tabB : List (Nat × Sp) := [(n_console_Show, sp_CShow), (n_console_audit, sp_audit 62 5), (n_console_list, sp_list 62 5), (n_console_prepared, sp_prepared), (n_console_words, sp_words), (n_reredoskeep_lone, sp_lone), (n_reredoskeep_two, sp_two), (n_label_Above, sp_Above2), (n_label_Check, sp_Check), (n_label_one, sp_one), (n_store_Writes, sp_Writes), (n_reredoskeep_Store, sp_Store), (n_store_End, sp_End), (n_slices_Insert_reredos_api_Item_reredos_api_Item, sp_Ins), (n_slices_DeleteFunc_reredos_api_Doubt_reredos_api_Doubt, sp_DelD), (n_slices_DeleteFunc_reredos_api_Lock_reredos_api_Lock, sp_DelL), (n_store_Read, sp_Read), (n_store_Write, sp_Write), (n_store_hand, sp_hand), (n_store_call, sp_call), (n_store_Check, sp_SCheck), (n_store_locks, sp_locks), (n_store_doubts, sp_doubts), (n_store_items, sp_items), (n_store_busy, sp_busy), (n_store_lock, sp_lock), (n_store_doubted, sp_doubted), (n_store_txn, sp_stxn), (n_store_own, sp_own), (n_slices_Clone_reredos_api_Txn_reredos_api_Txn, sp_Clone 2), (n_slices_Clone_reredos_api_Doubt_reredos_api_Doubt, sp_Clone 3), (n_slices_Clone_reredos_api_Lock_reredos_api_Lock, sp_Clone 6), (n_slices_Clone_reredos_api_Item_reredos_api_Item, sp_Clone 3), (n_slices_Contains_reredos_api_Txn_reredos_api_Txn, sp_ContT), (n_slices_Index_reredos_api_Txn_reredos_api_Txn, sp_IndexT), (n_slices_ContainsFunc_reredos_api_Doubt_reredos_api_Doubt, sp_ContD), (n_slices_ContainsFunc_reredos_api_Lock_reredos_api_Lock, sp_ContL), (n_slices_IndexFunc_reredos_api_Doubt_reredos_api_Doubt, sp_IndexD), (n_slices_IndexFunc_reredos_api_Lock_reredos_api_Lock, sp_IndexL), (n_store_End_2, sp_cloD n_store_End_2), (n_store_doubted_1, sp_cloD n_store_doubted_1), (n_store_End_1, sp_cloL n_store_End_1), (n_store_doubts_1, sp_cloL n_store_doubts_1), (n_store_busy_1, sp_cloL n_store_busy_1), (n_store_lock_1, sp_cloL n_store_lock_1), (n_store_item, sp_item), (n_store_at, sp_at), (n_slices_BinarySearchFunc_reredos_api_Item_reredos_api_Item_int, sp_BinS), (n_store_at_1, sp_at1), (n_cmp_Compare_int, sp_Compare), (n_cmp_isNaN_int, sp_isNaN), (n_reredoskeep_picked, sp_picked)] ++ tab0
set_option maxRecDepth 10000 in
theorem tabB_ok : TbOK Tryd.prog kf (tb glP tabB) :=
  (((((((((((((((((((((((((((((((((((((((((((((((((((tab0_ok.cons
    k_reredoskeep_picked f_reredoskeep_picked e_reredoskeep_picked c_reredoskeep_picked v_picked).cons
    k_cmp_isNaN_int f_cmp_isNaN_int e_cmp_isNaN_int c_cmp_isNaN_int v_isNaN).cons
    k_cmp_Compare_int f_cmp_Compare_int e_cmp_Compare_int c_cmp_Compare_int (v_Compare rfl)).cons
    k_store_at_1 f_store_at_1 e_store_at_1 c_store_at_1 (v_at1 rfl)).cons
    k_slices_BinarySearchFunc_reredos_api_Item_reredos_api_Item_int f_slices_BinarySearchFunc_reredos_api_Item_reredos_api_Item_int e_slices_BinarySearchFunc_reredos_api_Item_reredos_api_Item_int c_slices_BinarySearchFunc_reredos_api_Item_reredos_api_Item_int (v_BinS rfl)).cons
    k_store_at f_store_at e_store_at c_store_at (v_at rfl)).cons
    k_store_item f_store_item e_store_item c_store_item (v_item rfl)).cons
    k_store_lock_1 f_store_lock_1 e_store_lock_1 c_store_lock_1 v_lock_1).cons
    k_store_busy_1 f_store_busy_1 e_store_busy_1 c_store_busy_1 v_busy_1).cons
    k_store_doubts_1 f_store_doubts_1 e_store_doubts_1 c_store_doubts_1 v_doubts_1).cons
    k_store_End_1 f_store_End_1 e_store_End_1 c_store_End_1 v_End_1).cons
    k_store_doubted_1 f_store_doubted_1 e_store_doubted_1 c_store_doubted_1 v_doubted_1).cons
    k_store_End_2 f_store_End_2 e_store_End_2 c_store_End_2 v_End_2).cons
    k_slices_IndexFunc_reredos_api_Lock_reredos_api_Lock f_slices_IndexFunc_reredos_api_Lock_reredos_api_Lock e_slices_IndexFunc_reredos_api_Lock_reredos_api_Lock c_slices_IndexFunc_reredos_api_Lock_reredos_api_Lock (v_IndexL fun f caps g h => by cases h <;> rfl)).cons
    k_slices_IndexFunc_reredos_api_Doubt_reredos_api_Doubt f_slices_IndexFunc_reredos_api_Doubt_reredos_api_Doubt e_slices_IndexFunc_reredos_api_Doubt_reredos_api_Doubt c_slices_IndexFunc_reredos_api_Doubt_reredos_api_Doubt (v_IndexD fun f caps g h => by cases h <;> rfl)).cons
    k_slices_ContainsFunc_reredos_api_Lock_reredos_api_Lock f_slices_ContainsFunc_reredos_api_Lock_reredos_api_Lock e_slices_ContainsFunc_reredos_api_Lock_reredos_api_Lock c_slices_ContainsFunc_reredos_api_Lock_reredos_api_Lock (v_ContL rfl)).cons
    k_slices_ContainsFunc_reredos_api_Doubt_reredos_api_Doubt f_slices_ContainsFunc_reredos_api_Doubt_reredos_api_Doubt e_slices_ContainsFunc_reredos_api_Doubt_reredos_api_Doubt c_slices_ContainsFunc_reredos_api_Doubt_reredos_api_Doubt (v_ContD rfl)).cons
    k_slices_Index_reredos_api_Txn_reredos_api_Txn f_slices_Index_reredos_api_Txn_reredos_api_Txn e_slices_Index_reredos_api_Txn_reredos_api_Txn c_slices_Index_reredos_api_Txn_reredos_api_Txn v_IndexT).cons
    k_slices_Contains_reredos_api_Txn_reredos_api_Txn f_slices_Contains_reredos_api_Txn_reredos_api_Txn e_slices_Contains_reredos_api_Txn_reredos_api_Txn c_slices_Contains_reredos_api_Txn_reredos_api_Txn (v_ContT rfl)).cons
    k_slices_Clone_reredos_api_Item_reredos_api_Item f_slices_Clone_reredos_api_Item_reredos_api_Item e_slices_Clone_reredos_api_Item_reredos_api_Item c_slices_Clone_reredos_api_Item_reredos_api_Item v_CloneI).cons
    k_slices_Clone_reredos_api_Lock_reredos_api_Lock f_slices_Clone_reredos_api_Lock_reredos_api_Lock e_slices_Clone_reredos_api_Lock_reredos_api_Lock c_slices_Clone_reredos_api_Lock_reredos_api_Lock v_CloneL).cons
    k_slices_Clone_reredos_api_Doubt_reredos_api_Doubt f_slices_Clone_reredos_api_Doubt_reredos_api_Doubt e_slices_Clone_reredos_api_Doubt_reredos_api_Doubt c_slices_Clone_reredos_api_Doubt_reredos_api_Doubt v_CloneD).cons
    k_slices_Clone_reredos_api_Txn_reredos_api_Txn f_slices_Clone_reredos_api_Txn_reredos_api_Txn e_slices_Clone_reredos_api_Txn_reredos_api_Txn c_slices_Clone_reredos_api_Txn_reredos_api_Txn v_CloneT).cons
    k_store_own f_store_own e_store_own c_store_own (v_own rfl rfl rfl rfl)).cons
    k_store_txn f_store_txn e_store_txn c_store_txn v_stxn).cons
    k_store_doubted f_store_doubted e_store_doubted c_store_doubted (v_doubted rfl)).cons
    k_store_lock f_store_lock e_store_lock c_store_lock (v_lock rfl)).cons
    k_store_busy f_store_busy e_store_busy c_store_busy (v_busy rfl)).cons
    k_store_items f_store_items e_store_items c_store_items v_items).cons
    k_store_doubts f_store_doubts e_store_doubts c_store_doubts (v_doubts rfl rfl rfl)).cons
    k_store_locks f_store_locks e_store_locks c_store_locks (v_locks rfl)).cons
    k_store_Check f_store_Check e_store_Check c_store_Check (v_SCheck rfl rfl rfl)).cons
    k_store_call f_store_call e_store_call c_store_call (v_call rfl rfl)).cons
    k_store_hand f_store_hand e_store_hand c_store_hand (v_hand rfl)).cons
    k_store_Write f_store_Write e_store_Write c_store_Write (v_Write rfl rfl rfl rfl rfl rfl rfl)).cons
    k_store_Read f_store_Read e_store_Read c_store_Read (v_Read rfl rfl rfl rfl rfl rfl rfl)).cons
    k_slices_DeleteFunc_reredos_api_Lock_reredos_api_Lock f_slices_DeleteFunc_reredos_api_Lock_reredos_api_Lock e_slices_DeleteFunc_reredos_api_Lock_reredos_api_Lock c_slices_DeleteFunc_reredos_api_Lock_reredos_api_Lock (v_DelL (fun f caps g h => by cases h <;> rfl) rfl)).cons
    k_slices_DeleteFunc_reredos_api_Doubt_reredos_api_Doubt f_slices_DeleteFunc_reredos_api_Doubt_reredos_api_Doubt e_slices_DeleteFunc_reredos_api_Doubt_reredos_api_Doubt c_slices_DeleteFunc_reredos_api_Doubt_reredos_api_Doubt (v_DelD (fun f caps g h => by cases h <;> rfl) rfl)).cons
    k_slices_Insert_reredos_api_Item_reredos_api_Item f_slices_Insert_reredos_api_Item_reredos_api_Item e_slices_Insert_reredos_api_Item_reredos_api_Item c_slices_Insert_reredos_api_Item_reredos_api_Item v_Ins).cons
    k_store_End f_store_End e_store_End c_store_End (v_End rfl rfl rfl rfl rfl rfl rfl)).cons
    k_reredoskeep_Store f_reredoskeep_Store e_reredoskeep_Store c_reredoskeep_Store (v_Store rfl rfl rfl rfl)).cons
    k_store_Writes f_store_Writes e_store_Writes c_store_Writes (v_Writes rfl)).cons
    k_label_one f_label_one e_label_one c_label_one v_one).cons
    k_label_Check f_label_Check e_label_Check c_label_Check (v_Check rfl)).cons
    k_label_Above f_label_Above e_label_Above c_label_Above v_Above2).cons
    k_reredoskeep_two f_reredoskeep_two e_reredoskeep_two c_reredoskeep_two (v_two rfl)).cons
    k_reredoskeep_lone f_reredoskeep_lone e_reredoskeep_lone c_reredoskeep_lone v_lone).cons
    k_console_words f_console_words e_console_words c_console_words (v_words rfl)).cons
    k_console_prepared f_console_prepared e_console_prepared c_console_prepared (v_prepared rfl)).cons
    k_console_list f_console_list e_console_list c_console_list (v_list rfl rfl rfl rfl)).cons
    k_console_audit f_console_audit e_console_audit c_console_audit (v_audit rfl rfl rfl)).cons
    k_console_Show f_console_Show e_console_Show c_console_Show (v_CShow rfl rfl rfl rfl rfl rfl rfl rfl rfl)
end Go.Proofs.YtghehknnaifoeaaDoor
