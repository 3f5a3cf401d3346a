/-
  The laws on labels (dominance is an order, the join is the least, the meet the greatest) return true on all integers, as the language of the Vcg texts has them. Conditions: the arguments fit an int.
-/
import Derived.Test.YthnnbhjdmnegfaaLabels
set_option linter.unusedVariables false
set_option linter.unusedSimpArgs false
namespace Go.Proofs.Ythnnbhjdmnegfaa
open Go Go.Vcg

theorem lab_bounds (n : Int) : 0 ≤ (lab n).1 ∧ (lab n).1 < 3 ∧ 0 ≤ (lab n).2 ∧ (lab n).2 < 4 :=
  ⟨(pk_bounds _ 3 (by decide)).1, (pk_bounds _ 3 (by decide)).2, (pk_bounds _ 4 (by decide)).1, (pk_bounds _ 4 (by decide)).2⟩

/-- Of labels of raw numbers there are twelve. -/
theorem lab_cases (P : Int × Int → Prop) (h : ∀ a ∈ [0, 1, 2], ∀ b ∈ [0, 1, 2, 3], P ((a : Int), (b : Int))) (n : Int) : P (lab n) := by
  have hb := lab_bounds n
  generalize lab n = p at hb
  obtain ⟨a, b⟩ := p
  simp only at hb
  have ha : a = 0 ∨ a = 1 ∨ a = 2 := by omega
  have hb : b = 0 ∨ b = 1 ∨ b = 2 ∨ b = 3 := by omega
  refine h a (by simp; omega) b (by simp; omega)

def lcases : List (Int × Int) := [(0, 0), (0, 1), (0, 2), (0, 3), (1, 0), (1, 1), (1, 2), (1, 3), (2, 0), (2, 1), (2, 2), (2, 3)]
theorem lab_mem (n : Int) : lab n ∈ lcases := lab_cases (· ∈ lcases) (by decide) n

theorem above_refl (a : Int) : above (lab a) (lab a) = true :=
  (by decide +kernel : ∀ p ∈ lcases, above p p = true) _ (lab_mem a)
theorem above_anti (a b : Int) (h : above (lab a) (lab b) = true) (g : above (lab b) (lab a) = true) : lab a = lab b :=
  (by decide +kernel : ∀ p ∈ lcases, ∀ q ∈ lcases, above p q = true → above q p = true → p = q) _ (lab_mem a) _ (lab_mem b) h g
theorem above_trans (a b c : Int) (h : above (lab a) (lab b) = true) (g : above (lab b) (lab c) = true) : above (lab a) (lab c) = true :=
  (by decide +kernel : ∀ p ∈ lcases, ∀ q ∈ lcases, ∀ r ∈ lcases, above p q = true → above q r = true → above p r = true) _ (lab_mem a) _ (lab_mem b) _ (lab_mem c) h g

def join (a b : Int × Int) : Int × Int := (max a.1 b.1, bitsI .or .i64 a.2 b.2)
def meet (a b : Int × Int) : Int × Int := (min a.1 b.1, bitsI .and .i64 a.2 b.2)
theorem join_least (a b c : Int) : above (join (lab a) (lab b)) (lab a) = true ∧ above (join (lab a) (lab b)) (lab b) = true ∧ above (lab c) (join (lab a) (lab b)) = (above (lab c) (lab a) && above (lab c) (lab b)) :=
  (by decide +kernel : ∀ p ∈ lcases, ∀ q ∈ lcases, ∀ r ∈ lcases, above (join p q) p = true ∧ above (join p q) q = true ∧ above r (join p q) = (above r p && above r q)) _ (lab_mem a) _ (lab_mem b) _ (lab_mem c)
theorem meet_most (a b c : Int) : above (lab a) (meet (lab a) (lab b)) = true ∧ above (lab b) (meet (lab a) (lab b)) = true ∧ above (meet (lab a) (lab b)) (lab c) = (above (lab a) (lab c) && above (lab b) (lab c)) :=
  (by decide +kernel : ∀ p ∈ lcases, ∀ q ∈ lcases, ∀ r ∈ lcases, above p (meet p q) = true ∧ above q (meet p q) = true ∧ above (meet p q) r = (above p r && above q r)) _ (lab_mem a) _ (lab_mem b) _ (lab_mem c)

def sp_law3 : Sp := { pre := fun ds => ∃ a b c, ds = [.int .i64 a, .int .i64 b, .int .i64 c] ∧ inR .i64 a ∧ inR .i64 b ∧ inR .i64 c, F := fun _ => .bool true }

section
variable {T : Tb}
theorem v_AboveOrder (h1 : T.sp n_reredoskeep_Lab = some sp_Lab) (h2 : T.sp n_label_Above = some sp_Above) : Verified T ir_reredoskeep_AboveOrder sp_law3 := by
  refine Verified.mk ?_
  rintro ds ⟨a, b, c, rfl, ha, hb, hc⟩
  simp [k_seq, k_block, k_skip, k_reg, k_alt, k_cond, k_exit, k_ret, kf_nil, kf_seq_n, kf_seq_e, kf_seq_r, kf_blk_n, kf_blk_e, kf_blk_r, kf_lp_n, kf_lp_e, kf_lp_r, kf_cut_n, kf_cut_e, kf_cut_r, mkTm, VCops, VCalt, istep, act, gd, applyE, wrapD, Opd.ev, St.get, St.set, D.un, D.gu, gus, IOp.opds, binD, fnPost, getRes, IRes.get, oneRes, D.out, outL, D.clos, closL, D.norow, norowL, D.lv, lvL, D.scal, scalL, D.cells, D.cell, D.cell', St.lk, obPut, obDel, List.lookup, cut, pickD, splice, fillParts, fillRows, elem_cons, newsOf, D.pl, D.forget, forgetL, Ob.forget, forgetO, eqCells, sg, leD, leDL, leOb, apartK, St.le, ir_reredoskeep_AboveOrder, sp_law3, h1, h2, sp_Lab, sp_Above, lb, lbOf, ha, hb, hc, and_assoc]
  have r := above_refl a
  have an := above_anti a b
  have tr := above_trans a b c
  cases h1 : above (lab a) (lab b) <;> cases h2 : above (lab b) (lab a) <;> cases h3 : above (lab b) (lab c) <;> cases h4 : above (lab a) (lab c) <;> simp_all

theorem v_JoinLeast (h1 : T.sp n_reredoskeep_Lab = some sp_Lab) (h2 : T.sp n_label_Above = some sp_Above) (h3 : T.sp n_label_Join = some sp_Join) : Verified T ir_reredoskeep_JoinLeast sp_law3 := by
  refine Verified.mk ?_
  rintro ds ⟨a, b, c, rfl, ha, hb, hc⟩
  have e := join_least a b c
  unfold join at e
  simp [k_seq, k_block, k_skip, k_reg, k_alt, k_cond, k_exit, k_ret, kf_nil, kf_seq_n, kf_seq_e, kf_seq_r, kf_blk_n, kf_blk_e, kf_blk_r, kf_lp_n, kf_lp_e, kf_lp_r, kf_cut_n, kf_cut_e, kf_cut_r, mkTm, VCops, VCalt, istep, act, gd, applyE, wrapD, Opd.ev, St.get, St.set, D.un, D.gu, gus, IOp.opds, binD, fnPost, getRes, IRes.get, oneRes, D.out, outL, D.clos, closL, D.norow, norowL, D.lv, lvL, D.scal, scalL, D.cells, D.cell, D.cell', St.lk, obPut, obDel, List.lookup, cut, pickD, splice, fillParts, fillRows, elem_cons, newsOf, D.pl, D.forget, forgetL, Ob.forget, forgetO, eqCells, sg, leD, leDL, leOb, apartK, St.le, ir_reredoskeep_JoinLeast, sp_law3, h1, h2, h3, sp_Lab, sp_Above, sp_Join, lb, lbOf, ha, hb, hc, and_assoc, e]

theorem v_MeetMost (h1 : T.sp n_reredoskeep_Lab = some sp_Lab) (h2 : T.sp n_label_Above = some sp_Above) (h3 : T.sp n_label_Meet = some sp_Meet) : Verified T ir_reredoskeep_MeetMost sp_law3 := by
  refine Verified.mk ?_
  rintro ds ⟨a, b, c, rfl, ha, hb, hc⟩
  have e := meet_most a b c
  unfold meet at e
  simp [k_seq, k_block, k_skip, k_reg, k_alt, k_cond, k_exit, k_ret, kf_nil, kf_seq_n, kf_seq_e, kf_seq_r, kf_blk_n, kf_blk_e, kf_blk_r, kf_lp_n, kf_lp_e, kf_lp_r, kf_cut_n, kf_cut_e, kf_cut_r, mkTm, VCops, VCalt, istep, act, gd, applyE, wrapD, Opd.ev, St.get, St.set, D.un, D.gu, gus, IOp.opds, binD, fnPost, getRes, IRes.get, oneRes, D.out, outL, D.clos, closL, D.norow, norowL, D.lv, lvL, D.scal, scalL, D.cells, D.cell, D.cell', St.lk, obPut, obDel, List.lookup, cut, pickD, splice, fillParts, fillRows, elem_cons, newsOf, D.pl, D.forget, forgetL, Ob.forget, forgetO, eqCells, sg, leD, leDL, leOb, apartK, St.le, ir_reredoskeep_MeetMost, sp_law3, h1, h2, h3, sp_Lab, sp_Above, sp_Meet, lb, lbOf, ha, hb, hc, and_assoc, e]
end
end Go.Proofs.Ythnnbhjdmnegfaa
