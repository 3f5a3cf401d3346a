/-
  Messages on their way: slices.Delete of one message, net.Send, net.Take. Conditions: those of each specification's 'pre', and that the functions that are called are what theirs say.
-/
import Derived.Test.YtopdccbcknlepaaDoorNtA
set_option linter.unusedVariables false
set_option linter.unusedSimpArgs false
namespace Go.Proofs.YtopdccbcknlepaaDoor
open Go Go.Vcg

/-- One of a row is no more. -/
def delE {α : Type} (l : List α) (i : Nat) : List α := l.take i ++ l.drop (i + 1)
def hs_Del (sz : Nat) : HSp := {
  pre := fun ds ob => ∃ (es : List (List D)) (i : Nat), ds = [.row 1000000000, .int .i64 i, .int .i64 (i + 1 : Int)] ∧ ob = [(1000000000, .row sz es)] ∧ i < es.length ∧ es.length ≤ 100000 ∧ (es.all fun e => e.all D.cell) = true
  F := fun ds ob => match ds, ob with
    | [_, .int _ i, _], [(_, .row _ es)] => (.row 0, [(0, .row sz (delE es i.toNat))])
    | _, _ => (.any, []) }
def sp_Del (sz : Nat) : Sp := { pre := fun _ => True, F := fun _ => .any, hx := some (hs_Del sz) }
theorem Del_pre {sz : Nat} {es : List (List D)} {i : Nat} (h : i < es.length) (h1 : es.length ≤ 100000) (h2 : (es.all fun e => e.all D.cell) = true) : (hs_Del sz).pre [.row 1000000000, .int .i64 i, .int .i64 (i + 1 : Int)] [(1000000000, .row sz es)] = True := by
  simp only [hs_Del, eq_iff_iff, iff_true]; exact ⟨es, i, rfl, rfl, h, h1, h2⟩
theorem Del_F (sz : Nat) (es : List (List D)) (i : Nat) (x : D) : (hs_Del sz).F [.row 1000000000, .int .i64 i, x] [(1000000000, .row sz es)] = (.row 0, [(0, .row sz (delE es i))]) := by
  simp [hs_Del]
theorem over_at (A Q z : List (List D)) : over (A ++ Q) A.length z = A ++ (z ++ Q.drop z.length) := by
  simp only [over, List.take_left, List.drop_append, List.drop_eq_nil_of_le (show A.length ≤ A.length + z.length by omega), List.nil_append, Nat.add_sub_cancel_left, List.append_assoc]
theorem del_over {es R : List (List D)} {z : List D} {i : Nat} (hi : i < es.length) :
    (over (over (es ++ R) i (es.drop (i + 1))) (es.length - 1) [z]).take (es.length - 1) = delE es i := by
  have hA : (es.take i).length = i := by simp; omega
  have h0 : es ++ R = es.take i ++ (es.drop i ++ R) := by rw [← List.append_assoc, List.take_append_drop]
  have h1 : over (es ++ R) i (es.drop (i + 1)) = (es.take i ++ es.drop (i + 1)) ++ (es.drop i ++ R).drop (es.drop (i + 1)).length := by
    have := over_at (es.take i) (es.drop i ++ R) (es.drop (i + 1))
    rw [hA, ← h0] at this
    rw [this, List.append_assoc]
  have hl : (es.take i ++ es.drop (i + 1)).length = es.length - 1 := by simp; omega
  have h2 := over_at (es.take i ++ es.drop (i + 1)) ((es.drop i ++ R).drop (es.drop (i + 1)).length) [z]
  rw [hl, ← h1] at h2
  rw [h2, ← hl, List.take_left]
  rfl

section
variable {T : Tb}
attribute [local simp] k_seq k_block k_skip k_reg k_alt k_cond k_exit k_ret kf_nil kf_seq_n kf_seq_e kf_seq_r kf_blk_n kf_blk_e kf_blk_r kf_lp_n kf_lp_e kf_lp_r kf_cut_n kf_cut_e kf_cut_r mkTm VCops VCalt istep act gd applyE wrapD Opd.ev get_mk set_mk set_mk0 tget16 tset16 tget_0 tset_0 tget_1 tset_1 tget_2 tset_2 tget_3 tset_3 tget_4 tset_4 tget_5 tset_5 tget_6 tset_6 tget_7 tset_7 tget_8 tset_8 tget_9 tset_9 tget_10 tset_10 tget_11 tset_11 tget_12 tset_12 tget_13 tset_13 tget_14 tset_14 tget_15 tset_15 D.un D.gu gus IOp.opds binD fnPost getRes IRes.get oneRes D.out outL D.clos closL D.norow norowL D.lv lvL D.scal scalL D.cells D.cell D.cell' St.lk obPut obDel List.lookup cut pickD splice fillParts fillRows elem_cons newsOf D.pl D.forget forgetL Ob.forget forgetO eqCells sg leD leDL leOb apartK St.le D.keys keysL D.rows rowsL obKeys addKeys reach pos D.ren renL Ob.ren inM outM inObs outObs goneK apartN okNames_eq okNms obNms namesOK_nil namesOK_cons freeOK_nil freeOK_cons D.frz frzL Ob.frz frzO St.frz forgetLs dropObs putObs hcall freeOf keeps baseN shD isShift shMax k_bad VCopsG frz_nil actx actc cnum vwCut St.frzT St.opnT St.clsT D.opn opnL Ob.opn opnO VCou VCcx St.oneS D.objI D.objK scrL D.scr St.opnS St.clsS D.cellS D.fzs fzsL k_mrk IOper.gh
set_option maxRecDepth 100000 in
set_option maxHeartbeats 8000000 in
theorem v_DelM : Verified T ir_slices_Delete_reredos_api_Message_reredos_api_Message (sp_Del 12) := by
  refine Verified.mkx rfl ?_
  rintro ds ob ⟨es, i, rfl, rfl, hi, hl, hc⟩ R hR
  rw [Del_F] at hR
  have hne : es ≠ [] := by intro h; subst h; simp at hi
  have hnn : ¬ (i : Int) = i + 1 := by omega
  have t1 : ∀ m : Nat, (((es ++ List.replicate m [D.any, D.any, D.any, D.any, D.any, D.any, D.any, D.any, D.any, D.any, D.any, D.any]).drop (i + 1)).take (es.length - (i + 1))) = es.drop (i + 1) := by
    intro m
    rw [List.drop_append_of_le_length (by omega), ← List.length_drop, List.take_left]
  have t2 : ∀ (m : Nat) (z : List D), (over (over (es ++ List.replicate m [D.any, D.any, D.any, D.any, D.any, D.any, D.any, D.any, D.any, D.any, D.any, D.any]) i (es.drop (i + 1))) (es.length - 1) [z]).take (es.length - 1) = delE es i := fun m z => del_over hi
  have k3 : ∀ m : Nat, es.length ≤ es.length + m - (i + 1) + (i + 1) := by intros; omega
  have k4 : ∀ m : Nat, i + 1 + (es.length - (i + 1)) ≤ es.length + m := by intros; omega
  have k5 : i + (es.length - (i + 1)) = es.length - 1 := by omega
  have k6 : es.length - (es.length - 1) = 1 := by omega
  have l0 : ∀ m : Nat, (over (es ++ List.replicate m [D.any, D.any, D.any, D.any, D.any, D.any, D.any, D.any, D.any, D.any, D.any, D.any]) i (es.drop (i + 1))).length = es.length + m := by
    intro m
    rw [length_over (by simp; omega)]; simp
  have l1 : ∀ (m : Nat) (z : List D), (over (over (es ++ List.replicate m [D.any, D.any, D.any, D.any, D.any, D.any, D.any, D.any, D.any, D.any, D.any, D.any]) i (es.drop (i + 1))) (es.length - 1) [z]).length = es.length + m := by
    intro m z
    rw [length_over (by rw [l0]; simp; omega), l0]
  have k2 : (es.drop (i + 1)).all (fun e => e.all D.cell) = true := by
    rw [List.all_eq_true] at hc ⊢
    exact fun e he => hc e (List.mem_of_mem_drop he)
  simp (implicitDefEqProofs := false) (maxSteps := 10000000) [ir_slices_Delete_reredos_api_Message_reredos_api_Message, hne, hnn, t1, t2, k2, k3, k4, k5, k6, l0, l1]
  refine fun m hm => ⟨by omega, by omega, by omega, by omega, by omega, by omega, ⟨by omega, fun e he d hd => ?_⟩, hR _ [(0, some 32)] (by simp (implicitDefEqProofs := false))⟩
  have he' : e ∈ es := by
    rcases List.mem_append.1 he with h | h
    · exact List.mem_of_mem_take h
    · exact List.mem_of_mem_drop h
  exact List.all_eq_true.1 (List.all_eq_true.1 hc e he') d hd
end
end Go.Proofs.YtopdccbcknlepaaDoor
