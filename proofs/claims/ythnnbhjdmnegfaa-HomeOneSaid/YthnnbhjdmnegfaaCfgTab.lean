/-
  The functions on configs are what the specifications say, for the given program. No conditions.
-/
import Derived.Test.YthnnbhjdmnegfaaCfgLaws
set_option linter.unusedVariables false
namespace Go.Proofs.Ythnnbhjdmnegfaa
open Go Go.Vcg

def tabC : List (Nat × Sp) := [(n_label_Home, sp_Home), (n_reredoskeep_Config, sp_Config), (n_label_Check, sp_Check), (n_label_one, sp_one), (n_label_Above, sp_Above), (n_reredoskeep_Lab, sp_Lab), (n_reredoskeep_picked, sp_picked)]

theorem tabC_ok : TbOK Try.prog (fun x => x) (tb gl0 tabC) :=
  ((((((TbOK.nil.cons f_reredoskeep_picked e_reredoskeep_picked c_reredoskeep_picked v_picked).cons f_reredoskeep_Lab e_reredoskeep_Lab c_reredoskeep_Lab (v_Lab rfl)).cons
    f_label_Above e_label_Above c_label_Above v_Above).cons f_label_one e_label_one c_label_one v_one).cons f_label_Check e_label_Check c_label_Check (v_Check rfl)).cons
    f_reredoskeep_Config e_reredoskeep_Config c_reredoskeep_Config (v_Config rfl rfl)).cons f_label_Home e_label_Home c_label_Home (v_Home rfl)

theorem fok_ConfigGood : FOK Try.prog (tb gl0 tabC) n_reredoskeep_ConfigGood sp_ConfigGood := FOK.of tabC_ok f_reredoskeep_ConfigGood c_reredoskeep_ConfigGood (v_ConfigGood rfl rfl)
theorem fok_HomeOne : FOK Try.prog (tb gl0 tabC) n_reredoskeep_HomeOne sp_HomeOne := FOK.of tabC_ok f_reredoskeep_HomeOne c_reredoskeep_HomeOne (v_HomeOne rfl rfl rfl)
end Go.Proofs.Ythnnbhjdmnegfaa
