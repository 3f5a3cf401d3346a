/-
  The functions on acts are what the specifications say, for the given program. No conditions.
-/
import Derived.Test.YtccoiplnonfkgaaAct6
set_option linter.unusedVariables false
namespace Go.Proofs.Ytccoiplnonfkgaa
open Go Go.Vcg

noncomputable def tabA : List (Nat × Sp) := [(n_reredoskeep_sameActs, sp_sameActs), (n_reredoskeep_sameInts, sp_sameInts), (n_reredoskeep_seen, sp_seen), (n_label_Sees, sp_Sees), (n_label_Purge, sp_Purge), (n_label_own, sp_own), (n_label_place, sp_place), (n_label_Above, sp_Above), (n_reredoskeep_Acts, sp_Acts), (n_reredoskeep_typed, sp_typed), (n_reredoskeep_dec, sp_dec), (n_reredoskeep_ask, sp_ask), (n_reredoskeep_Config, sp_Config), (n_label_Check, sp_Check), (n_label_one, sp_one), (n_reredoskeep_Lab, sp_Lab), (n_reredoskeep_picked, sp_picked)]

theorem tabA_ok : TbOK Try.prog kf (tb gl0 tabA) :=
  ((((((((((((((((TbOK.nil.cons k_reredoskeep_picked f_reredoskeep_picked e_reredoskeep_picked c_reredoskeep_picked v_picked).cons k_reredoskeep_Lab f_reredoskeep_Lab e_reredoskeep_Lab c_reredoskeep_Lab (v_Lab rfl)).cons
    k_label_one f_label_one e_label_one c_label_one v_one).cons k_label_Check f_label_Check e_label_Check c_label_Check (v_Check rfl)).cons
    k_reredoskeep_Config f_reredoskeep_Config e_reredoskeep_Config c_reredoskeep_Config (v_Config rfl rfl)).cons
    k_reredoskeep_ask f_reredoskeep_ask e_reredoskeep_ask c_reredoskeep_ask (v_ask rfl)).cons
    k_reredoskeep_dec f_reredoskeep_dec e_reredoskeep_dec c_reredoskeep_dec v_dec).cons
    k_reredoskeep_typed f_reredoskeep_typed e_reredoskeep_typed c_reredoskeep_typed (v_typed rfl rfl)).cons
    k_reredoskeep_Acts f_reredoskeep_Acts e_reredoskeep_Acts c_reredoskeep_Acts (v_Acts rfl rfl rfl)).cons
    k_label_Above f_label_Above e_label_Above c_label_Above v_Above).cons
    k_label_place f_label_place e_label_place c_label_place v_place).cons
    k_label_own f_label_own e_label_own c_label_own v_own).cons
    k_label_Purge f_label_Purge e_label_Purge c_label_Purge (v_Purge rfl rfl rfl rfl)).cons
    k_label_Sees f_label_Sees e_label_Sees c_label_Sees (v_Sees rfl rfl rfl)).cons
    k_reredoskeep_seen f_reredoskeep_seen e_reredoskeep_seen c_reredoskeep_seen (v_seen rfl)).cons
    k_reredoskeep_sameInts f_reredoskeep_sameInts e_reredoskeep_sameInts c_reredoskeep_sameInts v_sameInts).cons
    k_reredoskeep_sameActs f_reredoskeep_sameActs e_reredoskeep_sameActs c_reredoskeep_sameActs (v_sameActs rfl)

theorem fok_PurgeAll : FOK Try.prog (tb gl0 tabA) n_reredoskeep_PurgeAll sp_PurgeAll := FOK.of tabA_ok f_reredoskeep_PurgeAll c_reredoskeep_PurgeAll (v_PurgeAll rfl rfl rfl rfl rfl)
theorem fok_PurgeTwice : FOK Try.prog (tb gl0 tabA) n_reredoskeep_PurgeTwice sp_PurgeTwice := FOK.of tabA_ok f_reredoskeep_PurgeTwice c_reredoskeep_PurgeTwice (v_PurgeTwice rfl rfl rfl rfl rfl rfl)
theorem fok_PurgeMore : FOK Try.prog (tb gl0 tabA) n_reredoskeep_PurgeMore sp_PurgeMore := FOK.of tabA_ok f_reredoskeep_PurgeMore c_reredoskeep_PurgeMore (v_PurgeMore rfl rfl rfl rfl rfl rfl)
end Go.Proofs.Ytccoiplnonfkgaa
