/-
  The functions on raw numbers compute what the plain functions beside them say. Conditions: those of each specification's 'pre'.
-/
import Derived.Test.YtgioabhamihfmaaGreatDoorIr
set_option linter.unusedVariables false
set_option linter.unusedSimpArgs false
namespace Go.Proofs.YtgioabhamihfmaaGreatDoor
open Go Go.Vcg

/-! ### Plain functions -/
def pk (n m : Int) : Int := (if n < 0 then -(n + 1) else n).tmod m
def lab (n : Int) : Int × Int := (pk n 3, pk (n.tdiv 3) 4)
def lb (p : Int × Int) : D := .agg [.int .i64 p.1, .int .i64 p.2]
def lbOf : D → Int × Int
  | .agg [.int _ a, .int _ b] => (a, b)
  | _ => (0, 0)

theorem pk_bounds (n m : Int) (hm : 0 < m) : 0 ≤ pk n m ∧ pk n m < m := by
  unfold pk
  have h0 : 0 ≤ (if n < 0 then -(n + 1) else n) := by split <;> omega
  exact ⟨Int.tmod_nonneg _ h0, Int.tmod_lt_of_pos _ hm⟩

theorem tdiv_eq (n m : Int) : n.tdiv m = if 0 ≤ n then n / m else -((-n) / m) := by
  split
  · exact Int.tdiv_eq_ediv_of_nonneg (by omega)
  · have : n = -(-n) := by omega
    rw [this, Int.neg_tdiv, Int.tdiv_eq_ediv_of_nonneg (by omega)]
    simp

def sp_picked : Sp := { pre := fun ds => ∃ n m, ds = [.int .i64 n, .int .i64 m] ∧ inR .i64 n ∧ 0 < m, F := fun | [.int _ n, .int _ m] => .int .i64 (pk n m) | _ => .any }
def sp_Lab : Sp := { pre := fun ds => ∃ n, ds = [.int .i64 n] ∧ inR .i64 n, F := fun | [.int _ n] => lb (lab n) | _ => .any }
theorem lab_bounds (n : Int) : 0 ≤ (lab n).1 ∧ (lab n).1 < 3 ∧ 0 ≤ (lab n).2 ∧ (lab n).2 < 4 :=
  ⟨(pk_bounds _ 3 (by decide)).1, (pk_bounds _ 3 (by decide)).2, (pk_bounds _ 4 (by decide)).1, (pk_bounds _ 4 (by decide)).2⟩

/-- Of labels of raw numbers there are twelve. -/
theorem lab_cases (P : Int × Int → Prop) (h : ∀ a ∈ [0, 1, 2], ∀ b ∈ [0, 1, 2, 3], P ((a : Int), (b : Int))) (n : Int) : P (lab n) := by
  have hb := lab_bounds n
  generalize lab n = p at hb
  obtain ⟨a, b⟩ := p
  simp only at hb
  have ha : a = 0 ∨ a = 1 ∨ a = 2 := by omega
  have hb : b = 0 ∨ b = 1 ∨ b = 2 ∨ b = 3 := by omega
  refine h a (by simp; omega) b (by simp; omega)

def lcases : List (Int × Int) := [(0, 0), (0, 1), (0, 2), (0, 3), (1, 0), (1, 1), (1, 2), (1, 3), (2, 0), (2, 1), (2, 2), (2, 3)]
theorem lab_mem (n : Int) : lab n ∈ lcases := lab_cases (· ∈ lcases) (by decide) n

section
variable {T : Tb}
theorem v_picked : Verified T ir_reredoskeep_picked sp_picked := by
  refine Verified.mk ?_
  rintro ds ⟨n, m, rfl, hn, hm⟩
  simp only [inR] at hn
  simp [isMl, VCopsM, mstep, mchk, lchk, kchk, IOp.isB, k_seq, k_block, k_skip, k_reg, k_alt, k_cond, k_exit, k_ret, kf_nil, kf_seq_n, kf_seq_e, kf_seq_r, kf_blk_n, kf_blk_e, kf_blk_r, kf_lp_n, kf_lp_e, kf_lp_r, kf_cut_n, kf_cut_e, kf_cut_r, mkTm, VCops, VCalt, istep, act, gd, applyE, wrapD, Opd.ev, get_mk, set_mk, set_mk0, tget16, tset16, tget_0, tset_0, tget_1, tset_1, tget_2, tset_2, tget_3, tset_3, tget_4, tset_4, tget_5, tset_5, tget_6, tset_6, tget_7, tset_7, tget_8, tset_8, tget_9, tset_9, tget_10, tset_10, tget_11, tset_11, tget_12, tset_12, tget_13, tset_13, tget_14, tset_14, tget_15, tset_15, D.un, D.gu, gus, IOp.opds, binD, fnPost, getRes, IRes.get, oneRes, D.out, outL, D.clos, closL, D.norow, norowL, D.lv, lvL, D.scal, scalL, D.cells, D.cell, D.cell', St.lk, obPut, obDel, List.lookup, cut, pickD, splice, fillParts, fillRows, elem_cons, newsOf, D.pl, D.forget, forgetL, Ob.forget, forgetO, eqCells, sg, leD, leDL, leOb, apartK, St.le, D.keys, keysL, D.rows, rowsL, obKeys, addKeys, reach, pos, D.ren, renL, Ob.ren, inM, outM, inObs, outObs, goneK, apartN, okNames_eq, okNms, obNms, namesOK_nil, namesOK_cons, freeOK_nil, freeOK_cons, D.frz, frzL, Ob.frz, frzO, St.frz, forgetLs, dropObs, putObs, hcall, freeOf, keeps, baseN, shD, isShift, shMax, k_bad, VCopsG, frz_nil, actx, actc, cnum, vwCut, St.frzT, St.opnT, St.clsT, D.opn, opnL, Ob.opn, opnO, VCou, VCcx, St.oneS, D.objI, D.objK, St.objP, St.objQ, St.pathR, St.pathI, pathL, scrL, D.scr, St.opnS, St.clsS, D.cellS, D.fzs, fzsL, k_mrk, k_mrq, IOper.gh, St.bxS, D.tob, tobL, Ob.tob, tobO, zI, zC, zw, zz, zg, zm, zi, zb, zf, zl, za, zs, zn, zo, zd, zy, zu, ze, zk, zt, zc, zp, ir_reredoskeep_picked, sp_picked, pk, inR]
  refine ⟨fun h => ?_, fun h => ?_⟩
  · refine ⟨by omega, by omega, by omega, ?_⟩
    rw [if_pos h, Int.neg_tmod]
  · refine ⟨by omega, ?_⟩
    rw [if_neg (by omega)]

theorem v_Lab (h1 : T.sp n_reredoskeep_picked = some sp_picked) : Verified T ir_reredoskeep_Lab sp_Lab := by
  refine Verified.mk ?_
  rintro ds ⟨n, rfl, hn⟩
  simp [isMl, VCopsM, mstep, mchk, lchk, kchk, IOp.isB, k_seq, k_block, k_skip, k_reg, k_alt, k_cond, k_exit, k_ret, kf_nil, kf_seq_n, kf_seq_e, kf_seq_r, kf_blk_n, kf_blk_e, kf_blk_r, kf_lp_n, kf_lp_e, kf_lp_r, kf_cut_n, kf_cut_e, kf_cut_r, mkTm, VCops, VCalt, istep, act, gd, applyE, wrapD, Opd.ev, get_mk, set_mk, set_mk0, tget16, tset16, tget_0, tset_0, tget_1, tset_1, tget_2, tset_2, tget_3, tset_3, tget_4, tset_4, tget_5, tset_5, tget_6, tset_6, tget_7, tset_7, tget_8, tset_8, tget_9, tset_9, tget_10, tset_10, tget_11, tset_11, tget_12, tset_12, tget_13, tset_13, tget_14, tset_14, tget_15, tset_15, D.un, D.gu, gus, IOp.opds, binD, fnPost, getRes, IRes.get, oneRes, D.out, outL, D.clos, closL, D.norow, norowL, D.lv, lvL, D.scal, scalL, D.cells, D.cell, D.cell', St.lk, obPut, obDel, List.lookup, cut, pickD, splice, fillParts, fillRows, elem_cons, newsOf, D.pl, D.forget, forgetL, Ob.forget, forgetO, eqCells, sg, leD, leDL, leOb, apartK, St.le, D.keys, keysL, D.rows, rowsL, obKeys, addKeys, reach, pos, D.ren, renL, Ob.ren, inM, outM, inObs, outObs, goneK, apartN, okNames_eq, okNms, obNms, namesOK_nil, namesOK_cons, freeOK_nil, freeOK_cons, D.frz, frzL, Ob.frz, frzO, St.frz, forgetLs, dropObs, putObs, hcall, freeOf, keeps, baseN, shD, isShift, shMax, k_bad, VCopsG, frz_nil, actx, actc, cnum, vwCut, St.frzT, St.opnT, St.clsT, D.opn, opnL, Ob.opn, opnO, VCou, VCcx, St.oneS, D.objI, D.objK, St.objP, St.objQ, St.pathR, St.pathI, pathL, scrL, D.scr, St.opnS, St.clsS, D.cellS, D.fzs, fzsL, k_mrk, k_mrq, IOper.gh, St.bxS, D.tob, tobL, Ob.tob, tobO, zI, zC, zw, zz, zg, zm, zi, zb, zf, zl, za, zs, zn, zo, zd, zy, zu, ze, zk, zt, zc, zp, ir_reredoskeep_Lab, sp_Lab, h1, sp_picked, lb, lab, and_assoc, inR] at hn ⊢
  rw [tdiv_eq]
  omega

end
end Go.Proofs.YtgioabhamihfmaaGreatDoor
