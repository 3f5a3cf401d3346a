/-
  The functions on tapes are what the specifications say, for the given program, where the table of records' kinds is as the text has it. Conditions: that the table reads so.
-/
import Derived.Test.YteaonhddolfppaaDoorTapL
set_option linter.unusedVariables false
namespace Go.Proofs.YteaonhddolfppaaDoor
open Go Go.Vcg

def glR : Nat → D := fun i => if i = 1 then .ad 8 recT 0 0 else .any
noncomputable def tabT : List (Nat × Sp) := [(n_tape_Recover, sp_Recover), (n_reredoskeep_begins, sp_begins), (n_reredoskeep_taped, sp_taped), (n_reredoskeep_records, sp_records), (n_tape_Append, sp_Append), (n_slices_Concat_byte_byte, sp_Concat), (n_slices_Grow_byte_byte, sp_Grow), (n_tape_Crash, sp_Crash), (n_tape_Sync, sp_Sync), (n_tape_Room, sp_Room), (n_tape_open, sp_open), (n_reredoskeep_sameRecord, sp_sameRecord), (n_reredoskeep_sameInts, sp_sameIntsR), (n_wire_DecodeRecord, sp_DecodeRecord), (n_wire_EncodeRecord, sp_EncodeRecord), (n_slices_Clone_byte_byte, sp_CloneB), (n_wire_reader_end, sp_rend), (n_wire_reader_kind, sp_rkind), (n_wire_reader_bit, sp_rbit), (n_wire_reader_txn, sp_rtx), (n_wire_reader_take, sp_take), (n_wire_writer_bit, sp_bit), (n_wire_writer_txn, sp_wtx), (n_wire_writer_put, sp_put),
  (n_wire_CheckRecord, sp_CheckRecord), (n_wire_ask, sp_ask), (n_wire_value, sp_value), (n_wire_key, sp_key), (n_wire_txn, sp_wtxn), (n_reredoskeep_Record, sp_Record), (n_reredoskeep_Txn, sp_Txn), (n_reredoskeep_Config, sp_Config), (n_label_Check, sp_Check), (n_label_one, sp_one), (n_reredoskeep_Lab, sp_Lab), (n_reredoskeep_picked, sp_picked)]

theorem tabT_ok : TbOK Tryd.prog kf (tb glR tabT) :=
  ((((((((((((((((((((((((((((((((((((TbOK.nil : TbOK Tryd.prog kf (tb glR [])).cons k_reredoskeep_picked f_reredoskeep_picked e_reredoskeep_picked c_reredoskeep_picked v_picked).cons k_reredoskeep_Lab f_reredoskeep_Lab e_reredoskeep_Lab c_reredoskeep_Lab (v_Lab rfl)).cons
    k_label_one f_label_one e_label_one c_label_one v_one).cons k_label_Check f_label_Check e_label_Check c_label_Check (v_Check rfl)).cons
    k_reredoskeep_Config f_reredoskeep_Config e_reredoskeep_Config c_reredoskeep_Config (v_Config rfl rfl)).cons
    k_reredoskeep_Txn f_reredoskeep_Txn e_reredoskeep_Txn c_reredoskeep_Txn (v_Txn rfl)).cons
    k_reredoskeep_Record f_reredoskeep_Record e_reredoskeep_Record c_reredoskeep_Record (v_Record rfl rfl)).cons
    k_wire_txn f_wire_txn e_wire_txn c_wire_txn v_wtxn).cons k_wire_key f_wire_key e_wire_key c_wire_key v_key).cons k_wire_value f_wire_value e_wire_value c_wire_value v_value).cons
    k_wire_ask f_wire_ask e_wire_ask c_wire_ask v_ask).cons
    k_wire_CheckRecord f_wire_CheckRecord e_wire_CheckRecord c_wire_CheckRecord (v_CheckRecord rfl rfl rfl rfl rfl rfl)).cons
    k_wire_writer_put f_wire_writer_put e_wire_writer_put c_wire_writer_put v_put).cons
    k_wire_writer_txn f_wire_writer_txn e_wire_writer_txn c_wire_writer_txn (v_wtx rfl)).cons
    k_wire_writer_bit f_wire_writer_bit e_wire_writer_bit c_wire_writer_bit (v_bit rfl)).cons
    k_wire_reader_take f_wire_reader_take e_wire_reader_take c_wire_reader_take v_take).cons
    k_wire_reader_txn f_wire_reader_txn e_wire_reader_txn c_wire_reader_txn (v_rtx rfl)).cons
    k_wire_reader_bit f_wire_reader_bit e_wire_reader_bit c_wire_reader_bit (v_rbit rfl)).cons
    k_wire_reader_kind f_wire_reader_kind e_wire_reader_kind c_wire_reader_kind (v_rkind rfl)).cons
    k_wire_reader_end f_wire_reader_end e_wire_reader_end c_wire_reader_end v_rend).cons
    k_slices_Clone_byte_byte f_slices_Clone_byte_byte e_slices_Clone_byte_byte c_slices_Clone_byte_byte v_CloneB).cons
    k_wire_EncodeRecord f_wire_EncodeRecord e_wire_EncodeRecord c_wire_EncodeRecord (v_EncodeRecord rfl rfl rfl rfl rfl)).cons
    k_wire_DecodeRecord f_wire_DecodeRecord e_wire_DecodeRecord c_wire_DecodeRecord (v_DecodeRecord rfl rfl rfl rfl rfl rfl rfl rfl rfl)).cons
    k_reredoskeep_sameInts f_reredoskeep_sameInts e_reredoskeep_sameInts c_reredoskeep_sameInts v_sameIntsR).cons
    k_reredoskeep_sameRecord f_reredoskeep_sameRecord e_reredoskeep_sameRecord c_reredoskeep_sameRecord (v_sameRecord rfl)).cons
    k_tape_open f_tape_open e_tape_open c_tape_open (v_open rfl)).cons
    k_tape_Room f_tape_Room e_tape_Room c_tape_Room (v_Room rfl)).cons
    k_tape_Sync f_tape_Sync e_tape_Sync c_tape_Sync (v_Sync rfl)).cons
    k_tape_Crash f_tape_Crash e_tape_Crash c_tape_Crash (v_Crash rfl)).cons
    k_slices_Grow_byte_byte f_slices_Grow_byte_byte e_slices_Grow_byte_byte c_slices_Grow_byte_byte v_Grow).cons
    k_slices_Concat_byte_byte f_slices_Concat_byte_byte e_slices_Concat_byte_byte c_slices_Concat_byte_byte (v_Concat rfl)).cons
    k_tape_Append f_tape_Append e_tape_Append c_tape_Append (v_Append rfl rfl rfl)).cons
    k_reredoskeep_records f_reredoskeep_records e_reredoskeep_records c_reredoskeep_records (v_records rfl)).cons
    k_reredoskeep_taped f_reredoskeep_taped e_reredoskeep_taped c_reredoskeep_taped (v_taped rfl)).cons
    k_reredoskeep_begins f_reredoskeep_begins e_reredoskeep_begins c_reredoskeep_begins (v_begins rfl)).cons
    k_tape_Recover f_tape_Recover e_tape_Recover c_tape_Recover (v_Recover rfl rfl)

theorem fok_TapeRoom : FOK Tryd.prog (tb glR tabT) n_reredoskeep_TapeRoom sp_TapeRoom := FOK.of tabT_ok f_reredoskeep_TapeRoom c_reredoskeep_TapeRoom (v_TapeRoom rfl rfl rfl rfl rfl rfl)
theorem fok_CrashJust : FOK Tryd.prog (tb glR tabT) n_reredoskeep_CrashJust sp_CrashJust := FOK.of tabT_ok f_reredoskeep_CrashJust c_reredoskeep_CrashJust (v_CrashJust rfl rfl rfl rfl rfl)
theorem fok_TapeTorn : FOK Tryd.prog (tb glR tabT) n_reredoskeep_TapeTorn sp_TapeTorn := FOK.of tabT_ok f_reredoskeep_TapeTorn c_reredoskeep_TapeTorn (v_TapeTorn rfl rfl rfl rfl rfl rfl)
theorem fok_TapeOn : FOK Tryd.prog (tb glR tabT) n_reredoskeep_TapeOn sp_TapeOn := FOK.of tabT_ok f_reredoskeep_TapeOn c_reredoskeep_TapeOn (v_TapeOn rfl rfl rfl rfl rfl rfl rfl rfl rfl rfl)
theorem fok_TapeKeeps : FOK Tryd.prog (tb glR tabT) n_reredoskeep_TapeKeeps sp_TapeKeeps := FOK.of tabT_ok f_reredoskeep_TapeKeeps c_reredoskeep_TapeKeeps (v_TapeKeeps rfl rfl rfl rfl rfl rfl rfl rfl rfl)
end Go.Proofs.YteaonhddolfppaaDoor
