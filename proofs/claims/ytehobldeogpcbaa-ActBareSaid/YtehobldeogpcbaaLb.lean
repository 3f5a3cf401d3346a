/-
  The functions on labels compute what the plain functions beside them say. Conditions: those of each specification's 'pre'.
-/
import Derived.Test.YtehobldeogpcbaaPk
set_option linter.unusedVariables false
set_option linter.unusedSimpArgs false
namespace Go.Proofs.Ytehobldeogpcbaa
open Go Go.Vcg

def above (a b : Int × Int) : Bool := decide (b.1 ≤ a.1) && (bitsI .and .i64 a.2 b.2 == b.2)
def sp_Above : Sp := { pre := fun ds => ∃ a b, ds = [lb a, lb b], F := fun | [x, y] => .bool (above (lbOf x) (lbOf y)) | _ => .any }
def sp_Join : Sp := { pre := fun ds => ∃ a b, ds = [lb a, lb b], F := fun | [x, y] => lb (max (lbOf x).1 (lbOf y).1, bitsI .or .i64 (lbOf x).2 (lbOf y).2) | _ => .any }
def sp_Meet : Sp := { pre := fun ds => ∃ a b, ds = [lb a, lb b], F := fun | [x, y] => lb (min (lbOf x).1 (lbOf y).1, bitsI .and .i64 (lbOf x).2 (lbOf y).2) | _ => .any }

theorem above_refl (a : Int) : above (lab a) (lab a) = true :=
  (by decide +kernel : ∀ p ∈ lcases, above p p = true) _ (lab_mem a)
theorem above_anti (a b : Int) (h : above (lab a) (lab b) = true) (g : above (lab b) (lab a) = true) : lab a = lab b :=
  (by decide +kernel : ∀ p ∈ lcases, ∀ q ∈ lcases, above p q = true → above q p = true → p = q) _ (lab_mem a) _ (lab_mem b) h g
theorem above_trans (a b c : Int) (h : above (lab a) (lab b) = true) (g : above (lab b) (lab c) = true) : above (lab a) (lab c) = true :=
  (by decide +kernel : ∀ p ∈ lcases, ∀ q ∈ lcases, ∀ r ∈ lcases, above p q = true → above q r = true → above p r = true) _ (lab_mem a) _ (lab_mem b) _ (lab_mem c) h g

def join (a b : Int × Int) : Int × Int := (max a.1 b.1, bitsI .or .i64 a.2 b.2)
def meet (a b : Int × Int) : Int × Int := (min a.1 b.1, bitsI .and .i64 a.2 b.2)
theorem join_least (a b c : Int) : above (join (lab a) (lab b)) (lab a) = true ∧ above (join (lab a) (lab b)) (lab b) = true ∧ above (lab c) (join (lab a) (lab b)) = (above (lab c) (lab a) && above (lab c) (lab b)) :=
  (by decide +kernel : ∀ p ∈ lcases, ∀ q ∈ lcases, ∀ r ∈ lcases, above (join p q) p = true ∧ above (join p q) q = true ∧ above r (join p q) = (above r p && above r q)) _ (lab_mem a) _ (lab_mem b) _ (lab_mem c)
theorem meet_most (a b c : Int) : above (lab a) (meet (lab a) (lab b)) = true ∧ above (lab b) (meet (lab a) (lab b)) = true ∧ above (meet (lab a) (lab b)) (lab c) = (above (lab a) (lab c) && above (lab b) (lab c)) :=
  (by decide +kernel : ∀ p ∈ lcases, ∀ q ∈ lcases, ∀ r ∈ lcases, above p (meet p q) = true ∧ above q (meet p q) = true ∧ above (meet p q) r = (above p r && above q r)) _ (lab_mem a) _ (lab_mem b) _ (lab_mem c)

section
variable {T : Tb}
theorem v_Above : Verified T ir_label_Above sp_Above := by
  refine Verified.mk ?_
  rintro ds ⟨⟨a, b⟩, ⟨c, d⟩, rfl⟩
  simp [k_seq, k_block, k_skip, k_reg, k_alt, k_cond, k_exit, k_ret, kf_nil, kf_seq_n, kf_seq_e, kf_seq_r, kf_blk_n, kf_blk_e, kf_blk_r, kf_lp_n, kf_lp_e, kf_lp_r, kf_cut_n, kf_cut_e, kf_cut_r, mkTm, VCops, VCalt, istep, act, gd, applyE, wrapD, Opd.ev, get_mk, set_mk, set_mk0, tget16, tset16, tget_0, tset_0, tget_1, tset_1, tget_2, tset_2, tget_3, tset_3, tget_4, tset_4, tget_5, tset_5, tget_6, tset_6, tget_7, tset_7, tget_8, tset_8, tget_9, tset_9, tget_10, tset_10, tget_11, tset_11, tget_12, tset_12, tget_13, tset_13, tget_14, tset_14, tget_15, tset_15, D.un, D.gu, gus, IOp.opds, binD, fnPost, getRes, IRes.get, oneRes, D.out, outL, D.clos, closL, D.norow, norowL, D.lv, lvL, D.scal, scalL, D.cells, D.cell, D.cell', St.lk, obPut, obDel, List.lookup, cut, pickD, splice, fillParts, fillRows, elem_cons, newsOf, D.pl, D.forget, forgetL, Ob.forget, forgetO, eqCells, sg, leD, leDL, leOb, apartK, St.le, D.keys, keysL, D.rows, rowsL, obKeys, addKeys, reach, pos, D.ren, renL, Ob.ren, inM, outM, inObs, outObs, goneK, apartN, okNames_eq, okNms, obNms, namesOK_nil, namesOK_cons, freeOK_nil, freeOK_cons, D.frz, frzL, Ob.frz, frzO, St.frz, forgetLs, dropObs, putObs, hcall, freeOf, keeps, baseN, shD, isShift, shMax, k_bad, VCopsG, frz_nil, actx, actc, cnum, St.frzT, St.opnT, St.clsT, D.opn, opnL, Ob.opn, opnO, ir_label_Above, sp_Above, lb, lbOf, above]
  rfl
end
end Go.Proofs.Ytehobldeogpcbaa
