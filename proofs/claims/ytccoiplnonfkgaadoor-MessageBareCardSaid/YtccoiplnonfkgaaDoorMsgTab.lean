/-
  The functions on messages are what the specifications say, for the given program, where the table of messages' kinds is as the text has it. Conditions: that the table reads so.
-/
import Derived.Test.YtccoiplnonfkgaaDoorMsgC
set_option linter.unusedVariables false
namespace Go.Proofs.YtccoiplnonfkgaaDoor
open Go Go.Vcg

def glM : Nat → D := fun i => if i = 0 then .ad 8 msgT 0 0 else .any
noncomputable def tabM : List (Nat × Sp) := [(n_wire_CheckMessage, sp_CheckMessage), (n_wire_code, sp_code), (n_wire_ask, sp_ask), (n_wire_value, sp_value), (n_wire_key, sp_key), (n_wire_txn, sp_wtxn), (n_reredoskeep_Message, sp_Message), (n_reredoskeep_Txn, sp_Txn), (n_reredoskeep_Config, sp_Config), (n_label_Check, sp_Check), (n_label_one, sp_one), (n_reredoskeep_Lab, sp_Lab), (n_reredoskeep_picked, sp_picked)]

theorem tabM_ok : TbOK Tryd.prog kf (tb glM tabM) :=
  ((((((((((((TbOK.nil.cons k_reredoskeep_picked f_reredoskeep_picked e_reredoskeep_picked c_reredoskeep_picked v_picked).cons k_reredoskeep_Lab f_reredoskeep_Lab e_reredoskeep_Lab c_reredoskeep_Lab (v_Lab rfl)).cons
    k_label_one f_label_one e_label_one c_label_one v_one).cons k_label_Check f_label_Check e_label_Check c_label_Check (v_Check rfl)).cons
    k_reredoskeep_Config f_reredoskeep_Config e_reredoskeep_Config c_reredoskeep_Config (v_Config rfl rfl)).cons
    k_reredoskeep_Txn f_reredoskeep_Txn e_reredoskeep_Txn c_reredoskeep_Txn (v_Txn rfl)).cons
    k_reredoskeep_Message f_reredoskeep_Message e_reredoskeep_Message c_reredoskeep_Message (v_Message rfl rfl)).cons
    k_wire_txn f_wire_txn e_wire_txn c_wire_txn v_wtxn).cons k_wire_key f_wire_key e_wire_key c_wire_key v_key).cons k_wire_value f_wire_value e_wire_value c_wire_value v_value).cons
    k_wire_ask f_wire_ask e_wire_ask c_wire_ask v_ask).cons k_wire_code f_wire_code e_wire_code c_wire_code v_code).cons
    k_wire_CheckMessage f_wire_CheckMessage e_wire_CheckMessage c_wire_CheckMessage (v_CheckMessage rfl rfl rfl rfl rfl rfl rfl)

theorem fok_MessageBare : FOK Tryd.prog (tb glM tabM) 3 sp_MessageBare := FOK.of tabM_ok f_reredoskeep_MessageBare c_reredoskeep_MessageBare (v_MessageBare rfl rfl rfl rfl)
end Go.Proofs.YtccoiplnonfkgaaDoor
