/-
  The functions on records as bytes are what the specifications say, for the given program, where the table of records' kinds is as the text has it. Conditions: that the table reads so.
-/
import Derived.Test.YteaonhddolfppaaDoorRecL
set_option linter.unusedVariables false
namespace Go.Vcg
theorem inR_of_wf8 {n : Int} (h : (Lit.int .u8 n).wf = true) : inR .u8 n := by
  simp only [Lit.wf, Bool.and_eq_true, IntKind.min, IntKind.max, IntKind.signed, IntKind.bits] at h
  simp only [inR]
  simpa using h
end Go.Vcg
namespace Go.Proofs.YteaonhddolfppaaDoor
open Go Go.Vcg

def glR : Nat → D := fun i => if i = 1 then .ad 8 recT 0 0 else .any
noncomputable def tabR : List (Nat × Sp) := [(n_reredoskeep_sameRecord, sp_sameRecord), (n_reredoskeep_sameInts, sp_sameIntsR), (n_wire_DecodeRecord, sp_DecodeRecord), (n_wire_EncodeRecord, sp_EncodeRecord), (n_slices_Clone_byte_byte, sp_CloneB), (n_wire_reader_end, sp_rend), (n_wire_reader_kind, sp_rkind), (n_wire_reader_bit, sp_rbit), (n_wire_reader_txn, sp_rtx), (n_wire_reader_take, sp_take), (n_wire_writer_bit, sp_bit), (n_wire_writer_txn, sp_wtx), (n_wire_writer_put, sp_put),
  (n_wire_CheckRecord, sp_CheckRecord), (n_wire_ask, sp_ask), (n_wire_value, sp_value), (n_wire_key, sp_key), (n_wire_txn, sp_wtxn), (n_reredoskeep_Record, sp_Record), (n_reredoskeep_Txn, sp_Txn), (n_reredoskeep_Config, sp_Config), (n_label_Check, sp_Check), (n_label_one, sp_one), (n_reredoskeep_Lab, sp_Lab), (n_reredoskeep_picked, sp_picked)]

theorem tabR_ok : TbOK Tryd.prog kf (tb glR tabR) :=
  (((((((((((((((((((((((((TbOK.nil : TbOK Tryd.prog kf (tb glR [])).cons k_reredoskeep_picked f_reredoskeep_picked e_reredoskeep_picked c_reredoskeep_picked v_picked).cons k_reredoskeep_Lab f_reredoskeep_Lab e_reredoskeep_Lab c_reredoskeep_Lab (v_Lab rfl)).cons
    k_label_one f_label_one e_label_one c_label_one v_one).cons k_label_Check f_label_Check e_label_Check c_label_Check (v_Check rfl)).cons
    k_reredoskeep_Config f_reredoskeep_Config e_reredoskeep_Config c_reredoskeep_Config (v_Config rfl rfl)).cons
    k_reredoskeep_Txn f_reredoskeep_Txn e_reredoskeep_Txn c_reredoskeep_Txn (v_Txn rfl)).cons
    k_reredoskeep_Record f_reredoskeep_Record e_reredoskeep_Record c_reredoskeep_Record (v_Record rfl rfl)).cons
    k_wire_txn f_wire_txn e_wire_txn c_wire_txn v_wtxn).cons k_wire_key f_wire_key e_wire_key c_wire_key v_key).cons k_wire_value f_wire_value e_wire_value c_wire_value v_value).cons
    k_wire_ask f_wire_ask e_wire_ask c_wire_ask v_ask).cons
    k_wire_CheckRecord f_wire_CheckRecord e_wire_CheckRecord c_wire_CheckRecord (v_CheckRecord rfl rfl rfl rfl rfl rfl)).cons
    k_wire_writer_put f_wire_writer_put e_wire_writer_put c_wire_writer_put v_put).cons
    k_wire_writer_txn f_wire_writer_txn e_wire_writer_txn c_wire_writer_txn (v_wtx rfl)).cons
    k_wire_writer_bit f_wire_writer_bit e_wire_writer_bit c_wire_writer_bit (v_bit rfl)).cons
    k_wire_reader_take f_wire_reader_take e_wire_reader_take c_wire_reader_take v_take).cons
    k_wire_reader_txn f_wire_reader_txn e_wire_reader_txn c_wire_reader_txn (v_rtx rfl)).cons
    k_wire_reader_bit f_wire_reader_bit e_wire_reader_bit c_wire_reader_bit (v_rbit rfl)).cons
    k_wire_reader_kind f_wire_reader_kind e_wire_reader_kind c_wire_reader_kind (v_rkind rfl)).cons
    k_wire_reader_end f_wire_reader_end e_wire_reader_end c_wire_reader_end v_rend).cons
    k_slices_Clone_byte_byte f_slices_Clone_byte_byte e_slices_Clone_byte_byte c_slices_Clone_byte_byte v_CloneB).cons
    k_wire_EncodeRecord f_wire_EncodeRecord e_wire_EncodeRecord c_wire_EncodeRecord (v_EncodeRecord rfl rfl rfl rfl rfl)).cons
    k_wire_DecodeRecord f_wire_DecodeRecord e_wire_DecodeRecord c_wire_DecodeRecord (v_DecodeRecord rfl rfl rfl rfl rfl rfl rfl rfl rfl)).cons
    k_reredoskeep_sameInts f_reredoskeep_sameInts e_reredoskeep_sameInts c_reredoskeep_sameInts v_sameIntsR).cons
    k_reredoskeep_sameRecord f_reredoskeep_sameRecord e_reredoskeep_sameRecord c_reredoskeep_sameRecord (v_sameRecord rfl)

theorem fok_RecordBack : FOK Tryd.prog (tb glR tabR) n_reredoskeep_RecordBack sp_RecordBack := FOK.of tabR_ok f_reredoskeep_RecordBack c_reredoskeep_RecordBack (v_RecordBack rfl rfl rfl rfl rfl rfl)
theorem fok_RecordFixed : FOK Tryd.prog (tb glR tabR) n_reredoskeep_RecordFixed sp_RecordFixed := FOK.of tabR_ok f_reredoskeep_RecordFixed c_reredoskeep_RecordFixed (v_RecordFixed rfl rfl rfl)
end Go.Proofs.YteaonhddolfppaaDoor
