/-
  The functions on labels are what the specifications say, for the given program. No conditions.
-/
import Derived.Test.YthnnbhjdmnegfaaLabelLaws
set_option linter.unusedVariables false
namespace Go.Proofs.Ythnnbhjdmnegfaa
open Go Go.Vcg

def tabL : List (Nat × Sp) := [(n_label_Meet, sp_Meet), (n_label_Join, sp_Join), (n_label_Above, sp_Above), (n_reredoskeep_Lab, sp_Lab), (n_reredoskeep_picked, sp_picked)]

theorem tabL_ok : TbOK Try.prog (fun x => x) (tb gl0 tabL) :=
  ((((TbOK.nil.cons f_reredoskeep_picked e_reredoskeep_picked c_reredoskeep_picked v_picked).cons f_reredoskeep_Lab e_reredoskeep_Lab c_reredoskeep_Lab (v_Lab rfl)).cons
    f_label_Above e_label_Above c_label_Above v_Above).cons f_label_Join e_label_Join c_label_Join v_Join).cons f_label_Meet e_label_Meet c_label_Meet v_Meet

theorem fok_AboveOrder : FOK Try.prog (tb gl0 tabL) n_reredoskeep_AboveOrder sp_law3 := FOK.of tabL_ok f_reredoskeep_AboveOrder c_reredoskeep_AboveOrder (v_AboveOrder rfl rfl)
theorem fok_JoinLeast : FOK Try.prog (tb gl0 tabL) n_reredoskeep_JoinLeast sp_law3 := FOK.of tabL_ok f_reredoskeep_JoinLeast c_reredoskeep_JoinLeast (v_JoinLeast rfl rfl rfl)
theorem fok_MeetMost : FOK Try.prog (tb gl0 tabL) n_reredoskeep_MeetMost sp_law3 := FOK.of tabL_ok f_reredoskeep_MeetMost c_reredoskeep_MeetMost (v_MeetMost rfl rfl rfl)
end Go.Proofs.Ythnnbhjdmnegfaa
