/-
  The functions of messages on their way are what the specifications say, for the given program. Conditions: that the table of kinds reads as the text has it.
-/
import Derived.Test.YtopdccbcknlepaaDoorNtE
set_option linter.unusedVariables false
namespace Go.Proofs.YtopdccbcknlepaaDoor
open Go Go.Vcg

def glM : Nat → D := fun i => if i = 0 then .ad 8 msgT 0 0 else .any
noncomputable def tabN : List (Nat × Sp) := [(n_reredoskeep_messages, sp_messages), (n_reredoskeep_count, sp_count), (n_net_Take, sp_NTake), (n_net_Send, sp_NSend), (n_net_Check, sp_NCheck), (n_net_own, sp_NOwn), (n_net_Empty, sp_NEmpty), (n_slices_Delete_reredos_api_Message_reredos_api_Message, (sp_Del 12)), (n_slices_Clone_reredos_api_Message_reredos_api_Message, (sp_Cln 12)), (n_wire_CheckMessage, sp_CheckMessage), (n_wire_code, sp_code), (n_wire_ask, sp_ask), (n_wire_value, sp_value), (n_wire_key, sp_key), (n_wire_txn, sp_wtxn), (n_reredoskeep_Message, sp_Message), (n_reredoskeep_Txn, sp_Txn), (n_reredoskeep_Config, sp_Config), (n_label_Check, sp_Check), (n_label_one, sp_one), (n_reredoskeep_Lab, sp_Lab), (n_reredoskeep_picked, sp_picked)]

set_option maxRecDepth 10000 in
theorem tabN_ok : TbOK Tryd.prog kf (tb glM tabN) :=
  (((((((((((((((((((((((TbOK.nil : TbOK Tryd.prog kf (tb glM [])).cons
    k_reredoskeep_picked f_reredoskeep_picked e_reredoskeep_picked c_reredoskeep_picked v_picked).cons
    k_reredoskeep_Lab f_reredoskeep_Lab e_reredoskeep_Lab c_reredoskeep_Lab (v_Lab rfl)).cons
    k_label_one f_label_one e_label_one c_label_one v_one).cons
    k_label_Check f_label_Check e_label_Check c_label_Check (v_Check rfl)).cons
    k_reredoskeep_Config f_reredoskeep_Config e_reredoskeep_Config c_reredoskeep_Config (v_Config rfl rfl)).cons
    k_reredoskeep_Txn f_reredoskeep_Txn e_reredoskeep_Txn c_reredoskeep_Txn (v_Txn rfl)).cons
    k_reredoskeep_Message f_reredoskeep_Message e_reredoskeep_Message c_reredoskeep_Message (v_Message rfl rfl)).cons
    k_wire_txn f_wire_txn e_wire_txn c_wire_txn v_wtxn).cons
    k_wire_key f_wire_key e_wire_key c_wire_key v_key).cons
    k_wire_value f_wire_value e_wire_value c_wire_value v_value).cons
    k_wire_ask f_wire_ask e_wire_ask c_wire_ask v_ask).cons
    k_wire_code f_wire_code e_wire_code c_wire_code v_code).cons
    k_wire_CheckMessage f_wire_CheckMessage e_wire_CheckMessage c_wire_CheckMessage (v_CheckMessage rfl rfl rfl rfl rfl rfl rfl)).cons
    k_slices_Clone_reredos_api_Message_reredos_api_Message f_slices_Clone_reredos_api_Message_reredos_api_Message e_slices_Clone_reredos_api_Message_reredos_api_Message c_slices_Clone_reredos_api_Message_reredos_api_Message v_ClnM).cons
    k_slices_Delete_reredos_api_Message_reredos_api_Message f_slices_Delete_reredos_api_Message_reredos_api_Message e_slices_Delete_reredos_api_Message_reredos_api_Message c_slices_Delete_reredos_api_Message_reredos_api_Message v_DelM).cons
    k_net_Empty f_net_Empty e_net_Empty c_net_Empty (v_NEmpty rfl)).cons
    k_net_own f_net_own e_net_own c_net_own (v_NOwn rfl)).cons
    k_net_Check f_net_Check e_net_Check c_net_Check (v_NCheck rfl rfl)).cons
    k_net_Send f_net_Send e_net_Send c_net_Send (v_NSend rfl rfl rfl)).cons
    k_net_Take f_net_Take e_net_Take c_net_Take (v_NTake rfl rfl rfl)).cons
    k_reredoskeep_count f_reredoskeep_count e_reredoskeep_count c_reredoskeep_count v_count).cons
    k_reredoskeep_messages f_reredoskeep_messages e_reredoskeep_messages c_reredoskeep_messages (v_messages rfl))
end Go.Proofs.YtopdccbcknlepaaDoor
