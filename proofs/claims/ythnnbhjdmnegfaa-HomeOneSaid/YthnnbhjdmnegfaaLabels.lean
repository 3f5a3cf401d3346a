/-
  The functions on labels and raw numbers compute what the plain functions beside them say. Conditions: those of each specification's 'pre'.
-/
import Derived.Test.YthnnbhjdmnegfaaIr
set_option linter.unusedVariables false
set_option linter.unusedSimpArgs false
namespace Go.Proofs.Ythnnbhjdmnegfaa
open Go Go.Vcg

/-! ### Plain functions -/
def pk (n m : Int) : Int := (if n < 0 then -(n + 1) else n).tmod m
def lab (n : Int) : Int × Int := (pk n 3, pk (n.tdiv 3) 4)
def above (a b : Int × Int) : Bool := decide (b.1 ≤ a.1) && (bitsI .and .i64 a.2 b.2 == b.2)
def lb (p : Int × Int) : D := .agg [.int .i64 p.1, .int .i64 p.2]
def lbOf : D → Int × Int
  | .agg [.int _ a, .int _ b] => (a, b)
  | _ => (0, 0)

theorem pk_bounds (n m : Int) (hm : 0 < m) : 0 ≤ pk n m ∧ pk n m < m := by
  unfold pk
  have h0 : 0 ≤ (if n < 0 then -(n + 1) else n) := by split <;> omega
  exact ⟨Int.tmod_nonneg _ h0, Int.tmod_lt_of_pos _ hm⟩

theorem tdiv_eq (n m : Int) : n.tdiv m = if 0 ≤ n then n / m else -((-n) / m) := by
  split
  · exact Int.tdiv_eq_ediv_of_nonneg (by omega)
  · have : n = -(-n) := by omega
    rw [this, Int.neg_tdiv, Int.tdiv_eq_ediv_of_nonneg (by omega)]
    simp

def sp_picked : Sp := { pre := fun ds => ∃ n m, ds = [.int .i64 n, .int .i64 m] ∧ inR .i64 n ∧ 0 < m, F := fun | [.int _ n, .int _ m] => .int .i64 (pk n m) | _ => .any }
def sp_Lab : Sp := { pre := fun ds => ∃ n, ds = [.int .i64 n] ∧ inR .i64 n, F := fun | [.int _ n] => lb (lab n) | _ => .any }
def sp_Above : Sp := { pre := fun ds => ∃ a b, ds = [lb a, lb b], F := fun | [x, y] => .bool (above (lbOf x) (lbOf y)) | _ => .any }
def sp_Join : Sp := { pre := fun ds => ∃ a b, ds = [lb a, lb b], F := fun | [x, y] => lb (max (lbOf x).1 (lbOf y).1, bitsI .or .i64 (lbOf x).2 (lbOf y).2) | _ => .any }
def sp_Meet : Sp := { pre := fun ds => ∃ a b, ds = [lb a, lb b], F := fun | [x, y] => lb (min (lbOf x).1 (lbOf y).1, bitsI .and .i64 (lbOf x).2 (lbOf y).2) | _ => .any }

section
variable {T : Tb}
theorem v_picked : Verified T ir_reredoskeep_picked sp_picked := by
  refine Verified.mk ?_
  rintro ds ⟨n, m, rfl, hn, hm⟩
  simp only [inR] at hn
  simp [k_seq, k_block, k_skip, k_reg, k_alt, k_cond, k_exit, k_ret, kf_nil, kf_seq_n, kf_seq_e, kf_seq_r, kf_blk_n, kf_blk_e, kf_blk_r, kf_lp_n, kf_lp_e, kf_lp_r, kf_cut_n, kf_cut_e, kf_cut_r, mkTm, VCops, VCalt, istep, act, gd, applyE, wrapD, Opd.ev, St.get, St.set, D.un, D.gu, gus, IOp.opds, binD, fnPost, getRes, IRes.get, oneRes, D.out, outL, D.clos, closL, D.norow, norowL, D.lv, lvL, D.scal, scalL, D.cells, D.cell, D.cell', St.lk, obPut, obDel, List.lookup, cut, pickD, splice, fillParts, fillRows, elem_cons, newsOf, D.pl, D.forget, forgetL, Ob.forget, forgetO, eqCells, sg, leD, leDL, leOb, apartK, St.le, ir_reredoskeep_picked, sp_picked, pk, inR]
  refine ⟨fun h => ?_, fun h => ?_⟩
  · refine ⟨by omega, by omega, by omega, ?_⟩
    rw [if_pos h, Int.neg_tmod]
  · refine ⟨by omega, ?_⟩
    rw [if_neg (by omega)]

theorem v_Above : Verified T ir_label_Above sp_Above := by
  refine Verified.mk ?_
  rintro ds ⟨⟨a, b⟩, ⟨c, d⟩, rfl⟩
  simp [k_seq, k_block, k_skip, k_reg, k_alt, k_cond, k_exit, k_ret, kf_nil, kf_seq_n, kf_seq_e, kf_seq_r, kf_blk_n, kf_blk_e, kf_blk_r, kf_lp_n, kf_lp_e, kf_lp_r, kf_cut_n, kf_cut_e, kf_cut_r, mkTm, VCops, VCalt, istep, act, gd, applyE, wrapD, Opd.ev, St.get, St.set, D.un, D.gu, gus, IOp.opds, binD, fnPost, getRes, IRes.get, oneRes, D.out, outL, D.clos, closL, D.norow, norowL, D.lv, lvL, D.scal, scalL, D.cells, D.cell, D.cell', St.lk, obPut, obDel, List.lookup, cut, pickD, splice, fillParts, fillRows, elem_cons, newsOf, D.pl, D.forget, forgetL, Ob.forget, forgetO, eqCells, sg, leD, leDL, leOb, apartK, St.le, ir_label_Above, sp_Above, lb, lbOf, above]
  rfl

theorem v_Lab (h1 : T.sp n_reredoskeep_picked = some sp_picked) : Verified T ir_reredoskeep_Lab sp_Lab := by
  refine Verified.mk ?_
  rintro ds ⟨n, rfl, hn⟩
  simp [k_seq, k_block, k_skip, k_reg, k_alt, k_cond, k_exit, k_ret, kf_nil, kf_seq_n, kf_seq_e, kf_seq_r, kf_blk_n, kf_blk_e, kf_blk_r, kf_lp_n, kf_lp_e, kf_lp_r, kf_cut_n, kf_cut_e, kf_cut_r, mkTm, VCops, VCalt, istep, act, gd, applyE, wrapD, Opd.ev, St.get, St.set, D.un, D.gu, gus, IOp.opds, binD, fnPost, getRes, IRes.get, oneRes, D.out, outL, D.clos, closL, D.norow, norowL, D.lv, lvL, D.scal, scalL, D.cells, D.cell, D.cell', St.lk, obPut, obDel, List.lookup, cut, pickD, splice, fillParts, fillRows, elem_cons, newsOf, D.pl, D.forget, forgetL, Ob.forget, forgetO, eqCells, sg, leD, leDL, leOb, apartK, St.le, ir_reredoskeep_Lab, sp_Lab, h1, sp_picked, lb, lab, and_assoc, inR] at hn ⊢
  rw [tdiv_eq]
  omega

theorem v_Join : Verified T ir_label_Join sp_Join := by
  refine Verified.mk ?_
  rintro ds ⟨⟨a, b⟩, ⟨c, d⟩, rfl⟩
  simp [k_seq, k_block, k_skip, k_reg, k_alt, k_cond, k_exit, k_ret, kf_nil, kf_seq_n, kf_seq_e, kf_seq_r, kf_blk_n, kf_blk_e, kf_blk_r, kf_lp_n, kf_lp_e, kf_lp_r, kf_cut_n, kf_cut_e, kf_cut_r, mkTm, VCops, VCalt, istep, act, gd, applyE, wrapD, Opd.ev, St.get, St.set, D.un, D.gu, gus, IOp.opds, binD, fnPost, getRes, IRes.get, oneRes, D.out, outL, D.clos, closL, D.norow, norowL, D.lv, lvL, D.scal, scalL, D.cells, D.cell, D.cell', St.lk, obPut, obDel, List.lookup, cut, pickD, splice, fillParts, fillRows, elem_cons, newsOf, D.pl, D.forget, forgetL, Ob.forget, forgetO, eqCells, sg, leD, leDL, leOb, apartK, St.le, ir_label_Join, sp_Join, lb, lbOf]

theorem v_Meet : Verified T ir_label_Meet sp_Meet := by
  refine Verified.mk ?_
  rintro ds ⟨⟨a, b⟩, ⟨c, d⟩, rfl⟩
  simp [k_seq, k_block, k_skip, k_reg, k_alt, k_cond, k_exit, k_ret, kf_nil, kf_seq_n, kf_seq_e, kf_seq_r, kf_blk_n, kf_blk_e, kf_blk_r, kf_lp_n, kf_lp_e, kf_lp_r, kf_cut_n, kf_cut_e, kf_cut_r, mkTm, VCops, VCalt, istep, act, gd, applyE, wrapD, Opd.ev, St.get, St.set, D.un, D.gu, gus, IOp.opds, binD, fnPost, getRes, IRes.get, oneRes, D.out, outL, D.clos, closL, D.norow, norowL, D.lv, lvL, D.scal, scalL, D.cells, D.cell, D.cell', St.lk, obPut, obDel, List.lookup, cut, pickD, splice, fillParts, fillRows, elem_cons, newsOf, D.pl, D.forget, forgetL, Ob.forget, forgetO, eqCells, sg, leD, leDL, leOb, apartK, St.le, ir_label_Meet, sp_Meet, lb, lbOf]
end
end Go.Proofs.Ythnnbhjdmnegfaa
