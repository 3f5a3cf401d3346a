/-
  MessageFixed is true of the program. Conditions: none but those of the specifications.
-/
import Derived.Test.YtccoiplnonfkgaaDoorMsgF
set_option linter.unusedVariables false
namespace Go.Proofs.YtccoiplnonfkgaaDoor
open Go Go.Vcg

def glM : Nat → D := fun i => if i = 0 then .ad 8 msgT 0 0 else .any
noncomputable def tabW : List (Nat × Sp) := [(n_wire_DecodeMessage, sp_DecodeMessage), (n_wire_EncodeMessage, sp_EncodeMessage), (n_slices_Clone_byte_byte, sp_CloneB), (n_wire_reader_end, sp_rend), (n_wire_reader_kind, sp_rkind), (n_wire_reader_bit, sp_rbit), (n_wire_reader_txn, sp_rtx), (n_wire_reader_take, sp_take), (n_wire_writer_bit, sp_bit), (n_wire_writer_txn, sp_wtx), (n_wire_writer_put, sp_put),
  (n_wire_CheckMessage, sp_CheckMessage), (n_wire_code, sp_code), (n_wire_ask, sp_ask), (n_wire_value, sp_value), (n_wire_key, sp_key), (n_wire_txn, sp_wtxn), (n_reredoskeep_Message, sp_Message), (n_reredoskeep_Txn, sp_Txn), (n_reredoskeep_Config, sp_Config), (n_label_Check, sp_Check), (n_label_one, sp_one), (n_reredoskeep_Lab, sp_Lab), (n_reredoskeep_picked, sp_picked)]

theorem tabW_ok : TbOK Tryd.prog kf (tb glM tabW) :=
  ((((((((((((((((((((((((TbOK.nil : TbOK Tryd.prog kf (tb glM [])).cons k_reredoskeep_picked f_reredoskeep_picked e_reredoskeep_picked c_reredoskeep_picked v_picked).cons k_reredoskeep_Lab f_reredoskeep_Lab e_reredoskeep_Lab c_reredoskeep_Lab (v_Lab rfl)).cons
    k_label_one f_label_one e_label_one c_label_one v_one).cons k_label_Check f_label_Check e_label_Check c_label_Check (v_Check rfl)).cons
    k_reredoskeep_Config f_reredoskeep_Config e_reredoskeep_Config c_reredoskeep_Config (v_Config rfl rfl)).cons
    k_reredoskeep_Txn f_reredoskeep_Txn e_reredoskeep_Txn c_reredoskeep_Txn (v_Txn rfl)).cons
    k_reredoskeep_Message f_reredoskeep_Message e_reredoskeep_Message c_reredoskeep_Message (v_Message rfl rfl)).cons
    k_wire_txn f_wire_txn e_wire_txn c_wire_txn v_wtxn).cons k_wire_key f_wire_key e_wire_key c_wire_key v_key).cons k_wire_value f_wire_value e_wire_value c_wire_value v_value).cons
    k_wire_ask f_wire_ask e_wire_ask c_wire_ask v_ask).cons k_wire_code f_wire_code e_wire_code c_wire_code v_code).cons
    k_wire_CheckMessage f_wire_CheckMessage e_wire_CheckMessage c_wire_CheckMessage (v_CheckMessage rfl rfl rfl rfl rfl rfl rfl)).cons
    k_wire_writer_put f_wire_writer_put e_wire_writer_put c_wire_writer_put v_put).cons
    k_wire_writer_txn f_wire_writer_txn e_wire_writer_txn c_wire_writer_txn (v_wtx rfl)).cons
    k_wire_writer_bit f_wire_writer_bit e_wire_writer_bit c_wire_writer_bit (v_bit rfl)).cons
    k_wire_reader_take f_wire_reader_take e_wire_reader_take c_wire_reader_take v_take).cons
    k_wire_reader_txn f_wire_reader_txn e_wire_reader_txn c_wire_reader_txn (v_rtx rfl)).cons
    k_wire_reader_bit f_wire_reader_bit e_wire_reader_bit c_wire_reader_bit (v_rbit rfl)).cons
    k_wire_reader_kind f_wire_reader_kind e_wire_reader_kind c_wire_reader_kind (v_rkind rfl)).cons
    k_wire_reader_end f_wire_reader_end e_wire_reader_end c_wire_reader_end v_rend).cons
    k_slices_Clone_byte_byte f_slices_Clone_byte_byte e_slices_Clone_byte_byte c_slices_Clone_byte_byte v_CloneB).cons
    k_wire_EncodeMessage f_wire_EncodeMessage e_wire_EncodeMessage c_wire_EncodeMessage (v_EncodeMessage rfl rfl rfl rfl rfl)).cons
    k_wire_DecodeMessage f_wire_DecodeMessage e_wire_DecodeMessage c_wire_DecodeMessage (v_DecodeMessage rfl rfl rfl rfl rfl rfl rfl rfl rfl)

theorem fok_MessageFixed : FOK Tryd.prog (tb glM tabW) 12 sp_MessageFixed := FOK.of tabW_ok f_reredoskeep_MessageFixed c_reredoskeep_MessageFixed (v_MessageFixed rfl rfl rfl)
end Go.Proofs.YtccoiplnonfkgaaDoor
