/-
  What checks acts computes what the plain functions beside it say. Conditions: those of each specification's 'pre', and that the functions that are called are what theirs say.
-/
import Derived.Test.YtgioabhamihfmaaGreatDoorTq7
set_option linter.unusedVariables false
set_option linter.unusedSimpArgs false
namespace Go.Proofs.YtgioabhamihfmaaGreatDoor
open Go Go.Vcg

/-! ### The first one of which something holds -/
def idxOf {α : Type} (g : α → Bool) (l : List α) : Int := if l.any g = true then (l.findIdx g : Nat) else -1
theorem idxOf_found {α : Type} {g : α → Bool} {l : List α} {j : Nat} (h : j < l.length) (hj : g l[j] = true) (hb : ∀ i (hi : i < j), g (l[i]'(by omega)) = false) : idxOf g l = j := by
  have ha : l.any g = true := List.any_eq_true.2 ⟨_, List.getElem_mem h, hj⟩
  have : l.findIdx g = j := by
    refine (List.findIdx_eq h).2 ⟨hj, fun i hi => ?_⟩
    exact hb i hi
  rw [idxOf, if_pos ha, this]
theorem idxOf_none {α : Type} {g : α → Bool} {l : List α} (hb : ∀ i (hi : i < l.length), g l[i] = false) : idxOf g l = -1 := by
  rw [idxOf, if_neg]
  intro h
  obtain ⟨x, hx, hg⟩ := List.any_eq_true.1 h
  obtain ⟨i, hi, rfl⟩ := List.getElem_of_mem hx
  rw [hb i hi] at hg
  cases hg
theorem idxOf_ge {α : Type} (g : α → Bool) (l : List α) : (decide (idxOf g l ≥ 0)) = l.any g := by
  unfold idxOf
  cases h : l.any g
  · simp
  · simp

def badK (n : Int) : Bool := decide (n < 0) || decide (6000 < n)
theorem okKeep_any (l : List Int) : okKeep l = !(l.any badK) := by
  induction l with
  | nil => rfl
  | cons n l ih =>
    simp only [okKeep, List.all_cons, List.any_cons] at ih ⊢
    rw [ih, Bool.not_or]
    congr 1
    simp only [badK]
    by_cases h1 : n < 0 <;> by_cases h2 : 6000 < n <;> simp [h1, h2] <;> omega
def sp_num1 : Sp := { pre := fun ds => ∃ n : Int, ds = [.int .i64 n], F := fun | [.int _ n] => .bool (badK n) | _ => .any }
def sp_IndexI : Sp := { pre := fun ds => ∃ l : List Int, ds = [.fz 1 (l.map ic), .clo n_lines_numbers_1 []] ∧ l.length ≤ 1000000, F := fun | [x, _] => .int .i64 (idxOf badK (intsOf x)) | _ => .any }
def sp_ContI : Sp := { pre := fun ds => ∃ l : List Int, ds = [.fz 1 (l.map ic), .clo n_lines_numbers_1 []] ∧ l.length ≤ 1000000, F := fun | [x, _] => .bool ((intsOf x).any badK) | _ => .any }
theorem intsOf_fz (a : List Int) : intsOf (.fz 1 (a.map ic)) = a := by simp [intsOf, intOf_ic]
def cl5Of : List D → Cl5
  | [.int _ a, .int _ b, .int _ c, .int _ d, .int _ e] => ⟨a, b, c, d, e⟩
  | _ => ⟨0, 0, 0, 0, 0⟩
def sp_lcall : Sp := { pre := fun ds => ∃ x : Cl5, ds = [.agg (clC x)], F := fun | [.agg x] => .int .i64 (callB (cl5Of x)) | _ => .any }
def sp_numbers : Sp := { pre := fun ds => ∃ x a, ds = [x, actD a] ∧ isCfg x = true ∧ okAc a, F := fun | [x, .agg a] => .bool (decide (numB (cfgOf x).1 (cfgOf x).2.1.length (actL a))) | _ => .any }
def sp_bare : Sp := { pre := fun ds => ∃ a, ds = [actD a] ∧ 1 ≤ a.kind ∧ a.kind ≤ 8, F := fun | [.agg a] => .bool (decide (bareB (actL a))) | _ => .any }
def chkA (S : Int) (ls : List (Int × Int)) (p : Int) (a : Ac) : Int := if check S ls p ≠ 0 then check S ls p else actE S ls.length a
def sp_LCheck : Sp := { pre := fun ds => ∃ x a, ds = [x, actD a] ∧ isCfg x = true ∧ okAc a, F := fun | [x, .agg a] => .int .i64 (chkA (cfgOf x).1 (cfgOf x).2.1 (cfgOf x).2.2 (actL a)) | _ => .any }
def sp_two : Sp := { pre := fun ds => ∃ s : Int, ds = [.int .i64 s] ∧ inR .i64 s, F := fun | [.int _ s] => cfgD (1 + pk s 3) [(0, 0), (1, 0)] 3 | _ => .any }

section
variable {T : Tb}
theorem v_num1 : Verified T ir_lines_numbers_1 sp_num1 := by
  refine Verified.mk ?_
  rintro ds ⟨n, rfl⟩
  simp (implicitDefEqProofs := false) [isMl, VCopsM, mstep, mchk, lchk, kchk, IOp.isB, k_seq, k_block, k_skip, k_reg, k_alt, k_cond, k_exit, k_ret, kf_nil, kf_seq_n, kf_seq_e, kf_seq_r, kf_blk_n, kf_blk_e, kf_blk_r, kf_lp_n, kf_lp_e, kf_lp_r, kf_cut_n, kf_cut_e, kf_cut_r, mkTm, VCops, VCalt, istep, act, gd, applyE, wrapD, Opd.ev, get_mk, set_mk, set_mk0, tget16, tset16, tget_0, tset_0, tget_1, tset_1, tget_2, tset_2, tget_3, tset_3, tget_4, tset_4, tget_5, tset_5, tget_6, tset_6, tget_7, tset_7, tget_8, tset_8, tget_9, tset_9, tget_10, tset_10, tget_11, tset_11, tget_12, tset_12, tget_13, tset_13, tget_14, tset_14, tget_15, tset_15, D.un, D.gu, gus, IOp.opds, binD, fnPost, getRes, IRes.get, oneRes, D.out, outL, D.clos, closL, D.norow, norowL, D.lv, lvL, D.scal, scalL, D.cells, D.cell, D.cell', St.lk, obPut, obDel, List.lookup, cut, pickD, splice, fillParts, fillRows, elem_cons, newsOf, D.pl, D.forget, forgetL, Ob.forget, forgetO, eqCells, sg, leD, leDL, leOb, apartK, St.le, D.keys, keysL, D.rows, rowsL, obKeys, addKeys, reach, pos, D.ren, renL, Ob.ren, inM, outM, inObs, outObs, goneK, apartN, okNames_eq, okNms, obNms, namesOK_nil, namesOK_cons, freeOK_nil, freeOK_cons, D.frz, frzL, Ob.frz, frzO, St.frz, forgetLs, dropObs, putObs, hcall, freeOf, keeps, baseN, shD, isShift, shMax, k_bad, VCopsG, frz_nil, actx, actc, cnum, vwCut, St.frzT, St.opnT, St.clsT, D.opn, opnL, Ob.opn, opnO, VCou, VCcx, St.oneS, D.objI, D.objK, St.objP, St.objQ, St.pathR, St.pathI, pathL, scrL, D.scr, St.opnS, St.clsS, D.cellS, D.fzs, fzsL, k_mrk, k_mrq, IOper.gh, St.bxS, D.tob, tobL, Ob.tob, tobO, zI, zC, zw, zz, zg, zm, zi, zb, zf, zl, za, zs, zn, zo, zd, zy, zu, ze, zk, zt, zc, zp, ir_lines_numbers_1, sp_num1, badK]
set_option maxRecDepth 100000 in
set_option maxHeartbeats 4000000 in
theorem v_IndexI (h1 : T.sp n_lines_numbers_1 = some sp_num1) : Verified T ir_slices_IndexFunc_int_int sp_IndexI := by
  refine Verified.mk ?_
  rintro ds ⟨l, rfl, hl⟩
  have hx : sp_num1.hx = none := rfl
  have hcn : cnum T n_lines_numbers_1 = n_lines_numbers_1 := by rw [cnum, h1]; rfl
  have hF : ∀ n, sp_num1.F [.int .i64 n] = .bool (badK n) := fun n => rfl
  have hP : ∀ n, sp_num1.pre [.int .i64 n] = True := fun n => by simp only [sp_num1, eq_iff_iff, iff_true]; exact ⟨n, rfl⟩
  have hlt : n_lines_numbers_1 < 1000000 := by decide
  simp only [sp_IndexI, intsOf_fz]
  generalize n_lines_numbers_1 = f at h1 hcn hlt
  simp (implicitDefEqProofs := false) [isMl, VCopsM, mstep, mchk, lchk, kchk, IOp.isB, k_seq, k_block, k_skip, k_reg, k_alt, k_cond, k_exit, k_ret, kf_nil, kf_seq_n, kf_seq_e, kf_seq_r, kf_blk_n, kf_blk_e, kf_blk_r, kf_lp_n, kf_lp_e, kf_lp_r, kf_cut_n, kf_cut_e, kf_cut_r, mkTm, VCops, VCalt, istep, act, gd, applyE, wrapD, Opd.ev, get_mk, set_mk, set_mk0, tget16, tset16, tget_0, tset_0, tget_1, tset_1, tget_2, tset_2, tget_3, tset_3, tget_4, tset_4, tget_5, tset_5, tget_6, tset_6, tget_7, tset_7, tget_8, tset_8, tget_9, tset_9, tget_10, tset_10, tget_11, tset_11, tget_12, tset_12, tget_13, tset_13, tget_14, tset_14, tget_15, tset_15, D.un, D.gu, gus, IOp.opds, binD, fnPost, getRes, IRes.get, oneRes, D.out, outL, D.clos, closL, D.norow, norowL, D.lv, lvL, D.scal, scalL, D.cells, D.cell, D.cell', St.lk, obPut, obDel, List.lookup, cut, pickD, splice, fillParts, fillRows, elem_cons, newsOf, D.pl, D.forget, forgetL, Ob.forget, forgetO, eqCells, sg, leD, leDL, leOb, apartK, St.le, D.keys, keysL, D.rows, rowsL, obKeys, addKeys, reach, pos, D.ren, renL, Ob.ren, inM, outM, inObs, outObs, goneK, apartN, okNames_eq, okNms, obNms, namesOK_nil, namesOK_cons, freeOK_nil, freeOK_cons, D.frz, frzL, Ob.frz, frzO, St.frz, forgetLs, dropObs, putObs, hcall, freeOf, keeps, baseN, shD, isShift, shMax, k_bad, VCopsG, frz_nil, actx, actc, cnum, vwCut, St.frzT, St.opnT, St.clsT, D.opn, opnL, Ob.opn, opnO, VCou, VCcx, St.oneS, D.objI, D.objK, St.objP, St.objQ, St.pathR, St.pathI, pathL, scrL, D.scr, St.opnS, St.clsS, D.cellS, D.fzs, fzsL, k_mrk, k_mrq, IOper.gh, St.bxS, D.tob, tobL, Ob.tob, tobO, zI, zC, zw, zz, zg, zm, zi, zb, zf, zl, za, zs, zn, zo, zd, zy, zu, ze, zk, zt, zc, zp, ir_slices_IndexFunc_int_int]
  refine k_loop (ι := {j : Nat // j ≤ l.length ∧ ∀ i (hi : i < j) (hl : i < l.length), badK l[i] = false}) (fun x => ⟨mkTm 19 0 [(0, .fz 1 (l.map ic)), (1, .clo f []), (6, .fz 1 (l.map ic)), (7, .int .i64 l.length), (8, .int .i64 x.1)], []⟩)
    (fun x => l.length - x.1) [] ⟨0, by omega, fun i hi => by omega⟩ (by simp (implicitDefEqProofs := false) [isMl, VCopsM, mstep, mchk, lchk, kchk, IOp.isB, k_seq, k_block, k_skip, k_reg, k_alt, k_cond, k_exit, k_ret, kf_nil, kf_seq_n, kf_seq_e, kf_seq_r, kf_blk_n, kf_blk_e, kf_blk_r, kf_lp_n, kf_lp_e, kf_lp_r, kf_cut_n, kf_cut_e, kf_cut_r, mkTm, VCops, VCalt, istep, act, gd, applyE, wrapD, Opd.ev, get_mk, set_mk, set_mk0, tget16, tset16, tget_0, tset_0, tget_1, tset_1, tget_2, tset_2, tget_3, tset_3, tget_4, tset_4, tget_5, tset_5, tget_6, tset_6, tget_7, tset_7, tget_8, tset_8, tget_9, tset_9, tget_10, tset_10, tget_11, tset_11, tget_12, tset_12, tget_13, tset_13, tget_14, tset_14, tget_15, tset_15, D.un, D.gu, gus, IOp.opds, binD, fnPost, getRes, IRes.get, oneRes, D.out, outL, D.clos, closL, D.norow, norowL, D.lv, lvL, D.scal, scalL, D.cells, D.cell, D.cell', St.lk, obPut, obDel, List.lookup, cut, pickD, splice, fillParts, fillRows, elem_cons, newsOf, D.pl, D.forget, forgetL, Ob.forget, forgetO, eqCells, sg, leD, leDL, leOb, apartK, St.le, D.keys, keysL, D.rows, rowsL, obKeys, addKeys, reach, pos, D.ren, renL, Ob.ren, inM, outM, inObs, outObs, goneK, apartN, okNames_eq, okNms, obNms, namesOK_nil, namesOK_cons, freeOK_nil, freeOK_cons, D.frz, frzL, Ob.frz, frzO, St.frz, forgetLs, dropObs, putObs, hcall, freeOf, keeps, baseN, shD, isShift, shMax, k_bad, VCopsG, frz_nil, actx, actc, cnum, vwCut, St.frzT, St.opnT, St.clsT, D.opn, opnL, Ob.opn, opnO, VCou, VCcx, St.oneS, D.objI, D.objK, St.objP, St.objQ, St.pathR, St.pathI, pathL, scrL, D.scr, St.opnS, St.clsS, D.cellS, D.fzs, fzsL, k_mrk, k_mrq, IOper.gh, St.bxS, D.tob, tobL, Ob.tob, tobO, zI, zC, zw, zz, zg, zm, zi, zb, zf, zl, za, zs, zn, zo, zd, zy, zu, ze, zk, zt, zc, zp]) ?_
  rintro ⟨j, hj, hb⟩ P hQ
  by_cases hjl : j < l.length
  · have hjl' : (j : Int) < l.length := by omega
    have hel := elem_map ic l j hjl
    have hfnd : badK l[j] = true → (j : Int) = idxOf badK l := fun hq => (idxOf_found hjl hq fun i hi => hb i hi (by omega)).symm
    have hnx : badK l[j] = false → ∀ i (hi : i < j + 1) (hl : i < l.length), badK l[i] = false := fun hq i hi hl => by
      by_cases e : i = j
      · subst e; exact hq
      · exact hb i (by omega) hl
    generalize l[j] = x at hel hfnd hnx
    have hF' := hF x
    cases hgx : badK x
    · rw [hgx] at hF'
      replace hnx := hnx hgx
      clear hfnd hF
      simp (implicitDefEqProofs := false) [isMl, VCopsM, mstep, mchk, lchk, kchk, IOp.isB, k_seq, k_block, k_skip, k_reg, k_alt, k_cond, k_exit, k_ret, kf_nil, kf_seq_n, kf_seq_e, kf_seq_r, kf_blk_n, kf_blk_e, kf_blk_r, kf_lp_n, kf_lp_e, kf_lp_r, kf_cut_n, kf_cut_e, kf_cut_r, mkTm, VCops, VCalt, istep, act, gd, applyE, wrapD, Opd.ev, get_mk, set_mk, set_mk0, tget16, tset16, tget_0, tset_0, tget_1, tset_1, tget_2, tset_2, tget_3, tset_3, tget_4, tset_4, tget_5, tset_5, tget_6, tset_6, tget_7, tset_7, tget_8, tset_8, tget_9, tset_9, tget_10, tset_10, tget_11, tset_11, tget_12, tset_12, tget_13, tset_13, tget_14, tset_14, tget_15, tset_15, D.un, D.gu, gus, IOp.opds, binD, fnPost, getRes, IRes.get, oneRes, D.out, outL, D.clos, closL, D.norow, norowL, D.lv, lvL, D.scal, scalL, D.cells, D.cell, D.cell', St.lk, obPut, obDel, List.lookup, cut, pickD, splice, fillParts, fillRows, elem_cons, newsOf, D.pl, D.forget, forgetL, Ob.forget, forgetO, eqCells, sg, leD, leDL, leOb, apartK, St.le, D.keys, keysL, D.rows, rowsL, obKeys, addKeys, reach, pos, D.ren, renL, Ob.ren, inM, outM, inObs, outObs, goneK, apartN, okNames_eq, okNms, obNms, namesOK_nil, namesOK_cons, freeOK_nil, freeOK_cons, D.frz, frzL, Ob.frz, frzO, St.frz, forgetLs, dropObs, putObs, hcall, freeOf, keeps, baseN, shD, isShift, shMax, k_bad, VCopsG, frz_nil, actx, actc, cnum, vwCut, St.frzT, St.opnT, St.clsT, D.opn, opnL, Ob.opn, opnO, VCou, VCcx, St.oneS, D.objI, D.objK, St.objP, St.objQ, St.pathR, St.pathI, pathL, scrL, D.scr, St.opnS, St.clsS, D.cellS, D.fzs, fzsL, k_mrk, k_mrq, IOper.gh, St.bxS, D.tob, tobL, Ob.tob, tobO, zI, zC, zw, zz, zg, zm, zi, zb, zf, zl, za, zs, zn, zo, zd, zy, zu, ze, zk, zt, zc, zp, ir_slices_IndexFunc_int_int_b0, hjl', hjl, hel, ic, hlt, hcn, h1, hx, hF', hP]
      exact ⟨by simp only [inR]; omega, hQ _ [] ⟨j + 1, by omega, hnx⟩ (by simp (implicitDefEqProofs := false) [isMl, VCopsM, mstep, mchk, lchk, kchk, IOp.isB, k_seq, k_block, k_skip, k_reg, k_alt, k_cond, k_exit, k_ret, kf_nil, kf_seq_n, kf_seq_e, kf_seq_r, kf_blk_n, kf_blk_e, kf_blk_r, kf_lp_n, kf_lp_e, kf_lp_r, kf_cut_n, kf_cut_e, kf_cut_r, mkTm, VCops, VCalt, istep, act, gd, applyE, wrapD, Opd.ev, get_mk, set_mk, set_mk0, tget16, tset16, tget_0, tset_0, tget_1, tset_1, tget_2, tset_2, tget_3, tset_3, tget_4, tset_4, tget_5, tset_5, tget_6, tset_6, tget_7, tset_7, tget_8, tset_8, tget_9, tset_9, tget_10, tset_10, tget_11, tset_11, tget_12, tset_12, tget_13, tset_13, tget_14, tset_14, tget_15, tset_15, D.un, D.gu, gus, IOp.opds, binD, fnPost, getRes, IRes.get, oneRes, D.out, outL, D.clos, closL, D.norow, norowL, D.lv, lvL, D.scal, scalL, D.cells, D.cell, D.cell', St.lk, obPut, obDel, List.lookup, cut, pickD, splice, fillParts, fillRows, elem_cons, newsOf, D.pl, D.forget, forgetL, Ob.forget, forgetO, eqCells, sg, leD, leDL, leOb, apartK, St.le, D.keys, keysL, D.rows, rowsL, obKeys, addKeys, reach, pos, D.ren, renL, Ob.ren, inM, outM, inObs, outObs, goneK, apartN, okNames_eq, okNms, obNms, namesOK_nil, namesOK_cons, freeOK_nil, freeOK_cons, D.frz, frzL, Ob.frz, frzO, St.frz, forgetLs, dropObs, putObs, hcall, freeOf, keeps, baseN, shD, isShift, shMax, k_bad, VCopsG, frz_nil, actx, actc, cnum, vwCut, St.frzT, St.opnT, St.clsT, D.opn, opnL, Ob.opn, opnO, VCou, VCcx, St.oneS, D.objI, D.objK, St.objP, St.objQ, St.pathR, St.pathI, pathL, scrL, D.scr, St.opnS, St.clsS, D.cellS, D.fzs, fzsL, k_mrk, k_mrq, IOper.gh, St.bxS, D.tob, tobL, Ob.tob, tobO, zI, zC, zw, zz, zg, zm, zi, zb, zf, zl, za, zs, zn, zo, zd, zy, zu, ze, zk, zt, zc, zp, ic]) (by simp only; omega)⟩
    · rw [hgx] at hF'
      have hfnd2 := hfnd hgx
      clear hnx hfnd hF
      simp (implicitDefEqProofs := false) [isMl, VCopsM, mstep, mchk, lchk, kchk, IOp.isB, k_seq, k_block, k_skip, k_reg, k_alt, k_cond, k_exit, k_ret, kf_nil, kf_seq_n, kf_seq_e, kf_seq_r, kf_blk_n, kf_blk_e, kf_blk_r, kf_lp_n, kf_lp_e, kf_lp_r, kf_cut_n, kf_cut_e, kf_cut_r, mkTm, VCops, VCalt, istep, act, gd, applyE, wrapD, Opd.ev, get_mk, set_mk, set_mk0, tget16, tset16, tget_0, tset_0, tget_1, tset_1, tget_2, tset_2, tget_3, tset_3, tget_4, tset_4, tget_5, tset_5, tget_6, tset_6, tget_7, tset_7, tget_8, tset_8, tget_9, tset_9, tget_10, tset_10, tget_11, tset_11, tget_12, tset_12, tget_13, tset_13, tget_14, tset_14, tget_15, tset_15, D.un, D.gu, gus, IOp.opds, binD, fnPost, getRes, IRes.get, oneRes, D.out, outL, D.clos, closL, D.norow, norowL, D.lv, lvL, D.scal, scalL, D.cells, D.cell, D.cell', St.lk, obPut, obDel, List.lookup, cut, pickD, splice, fillParts, fillRows, elem_cons, newsOf, D.pl, D.forget, forgetL, Ob.forget, forgetO, eqCells, sg, leD, leDL, leOb, apartK, St.le, D.keys, keysL, D.rows, rowsL, obKeys, addKeys, reach, pos, D.ren, renL, Ob.ren, inM, outM, inObs, outObs, goneK, apartN, okNames_eq, okNms, obNms, namesOK_nil, namesOK_cons, freeOK_nil, freeOK_cons, D.frz, frzL, Ob.frz, frzO, St.frz, forgetLs, dropObs, putObs, hcall, freeOf, keeps, baseN, shD, isShift, shMax, k_bad, VCopsG, frz_nil, actx, actc, cnum, vwCut, St.frzT, St.opnT, St.clsT, D.opn, opnL, Ob.opn, opnO, VCou, VCcx, St.oneS, D.objI, D.objK, St.objP, St.objQ, St.pathR, St.pathI, pathL, scrL, D.scr, St.opnS, St.clsS, D.cellS, D.fzs, fzsL, k_mrk, k_mrq, IOper.gh, St.bxS, D.tob, tobL, Ob.tob, tobO, zI, zC, zw, zz, zg, zm, zi, zb, zf, zl, za, zs, zn, zo, zd, zy, zu, ze, zk, zt, zc, zp, ir_slices_IndexFunc_int_int_b0, hjl', hjl, hel, ic, hlt, hcn, h1, hx, hF', hP]
      exact hfnd2
  · have hjl' : ¬ (j : Int) < l.length := by omega
    have hn : idxOf badK l = -1 := idxOf_none fun i hi => hb i (by omega) hi
    simp (implicitDefEqProofs := false) [isMl, VCopsM, mstep, mchk, lchk, kchk, IOp.isB, k_seq, k_block, k_skip, k_reg, k_alt, k_cond, k_exit, k_ret, kf_nil, kf_seq_n, kf_seq_e, kf_seq_r, kf_blk_n, kf_blk_e, kf_blk_r, kf_lp_n, kf_lp_e, kf_lp_r, kf_cut_n, kf_cut_e, kf_cut_r, mkTm, VCops, VCalt, istep, act, gd, applyE, wrapD, Opd.ev, get_mk, set_mk, set_mk0, tget16, tset16, tget_0, tset_0, tget_1, tset_1, tget_2, tset_2, tget_3, tset_3, tget_4, tset_4, tget_5, tset_5, tget_6, tset_6, tget_7, tset_7, tget_8, tset_8, tget_9, tset_9, tget_10, tset_10, tget_11, tset_11, tget_12, tset_12, tget_13, tset_13, tget_14, tset_14, tget_15, tset_15, D.un, D.gu, gus, IOp.opds, binD, fnPost, getRes, IRes.get, oneRes, D.out, outL, D.clos, closL, D.norow, norowL, D.lv, lvL, D.scal, scalL, D.cells, D.cell, D.cell', St.lk, obPut, obDel, List.lookup, cut, pickD, splice, fillParts, fillRows, elem_cons, newsOf, D.pl, D.forget, forgetL, Ob.forget, forgetO, eqCells, sg, leD, leDL, leOb, apartK, St.le, D.keys, keysL, D.rows, rowsL, obKeys, addKeys, reach, pos, D.ren, renL, Ob.ren, inM, outM, inObs, outObs, goneK, apartN, okNames_eq, okNms, obNms, namesOK_nil, namesOK_cons, freeOK_nil, freeOK_cons, D.frz, frzL, Ob.frz, frzO, St.frz, forgetLs, dropObs, putObs, hcall, freeOf, keeps, baseN, shD, isShift, shMax, k_bad, VCopsG, frz_nil, actx, actc, cnum, vwCut, St.frzT, St.opnT, St.clsT, D.opn, opnL, Ob.opn, opnO, VCou, VCcx, St.oneS, D.objI, D.objK, St.objP, St.objQ, St.pathR, St.pathI, pathL, scrL, D.scr, St.opnS, St.clsS, D.cellS, D.fzs, fzsL, k_mrk, k_mrq, IOper.gh, St.bxS, D.tob, tobL, Ob.tob, tobO, zI, zC, zw, zz, zg, zm, zi, zb, zf, zl, za, zs, zn, zo, zd, zy, zu, ze, zk, zt, zc, zp, ir_slices_IndexFunc_int_int_b0, ir_slices_IndexFunc_int_int_r1, hjl', hn]
theorem v_ContI (h1 : T.sp n_slices_IndexFunc_int_int = some sp_IndexI) : Verified T ir_slices_ContainsFunc_int_int sp_ContI := by
  refine Verified.mk ?_
  rintro ds ⟨l, rfl, hl⟩
  have hx : sp_IndexI.hx = none := rfl
  have hF : sp_IndexI.F [.fz 1 (l.map ic), .clo n_lines_numbers_1 []] = .int .i64 (idxOf badK l) := by simp only [sp_IndexI, intsOf_fz]
  have hP : sp_IndexI.pre [.fz 1 (l.map ic), .clo n_lines_numbers_1 []] = True := by simp only [sp_IndexI, eq_iff_iff, iff_true]; exact ⟨l, rfl, hl⟩
  have hge := idxOf_ge badK l
  simp only [sp_ContI, intsOf_fz]
  generalize n_lines_numbers_1 = f at hF hP
  simp (implicitDefEqProofs := false) [isMl, VCopsM, mstep, mchk, lchk, kchk, IOp.isB, k_seq, k_block, k_skip, k_reg, k_alt, k_cond, k_exit, k_ret, kf_nil, kf_seq_n, kf_seq_e, kf_seq_r, kf_blk_n, kf_blk_e, kf_blk_r, kf_lp_n, kf_lp_e, kf_lp_r, kf_cut_n, kf_cut_e, kf_cut_r, mkTm, VCops, VCalt, istep, act, gd, applyE, wrapD, Opd.ev, get_mk, set_mk, set_mk0, tget16, tset16, tget_0, tset_0, tget_1, tset_1, tget_2, tset_2, tget_3, tset_3, tget_4, tset_4, tget_5, tset_5, tget_6, tset_6, tget_7, tset_7, tget_8, tset_8, tget_9, tset_9, tget_10, tset_10, tget_11, tset_11, tget_12, tset_12, tget_13, tset_13, tget_14, tset_14, tget_15, tset_15, D.un, D.gu, gus, IOp.opds, binD, fnPost, getRes, IRes.get, oneRes, D.out, outL, D.clos, closL, D.norow, norowL, D.lv, lvL, D.scal, scalL, D.cells, D.cell, D.cell', St.lk, obPut, obDel, List.lookup, cut, pickD, splice, fillParts, fillRows, elem_cons, newsOf, D.pl, D.forget, forgetL, Ob.forget, forgetO, eqCells, sg, leD, leDL, leOb, apartK, St.le, D.keys, keysL, D.rows, rowsL, obKeys, addKeys, reach, pos, D.ren, renL, Ob.ren, inM, outM, inObs, outObs, goneK, apartN, okNames_eq, okNms, obNms, namesOK_nil, namesOK_cons, freeOK_nil, freeOK_cons, D.frz, frzL, Ob.frz, frzO, St.frz, forgetLs, dropObs, putObs, hcall, freeOf, keeps, baseN, shD, isShift, shMax, k_bad, VCopsG, frz_nil, actx, actc, cnum, vwCut, St.frzT, St.opnT, St.clsT, D.opn, opnL, Ob.opn, opnO, VCou, VCcx, St.oneS, D.objI, D.objK, St.objP, St.objQ, St.pathR, St.pathI, pathL, scrL, D.scr, St.opnS, St.clsS, D.cellS, D.fzs, fzsL, k_mrk, k_mrq, IOper.gh, St.bxS, D.tob, tobL, Ob.tob, tobO, zI, zC, zw, zz, zg, zm, zi, zb, zf, zl, za, zs, zn, zo, zd, zy, zu, ze, zk, zt, zc, zp, ir_slices_ContainsFunc_int_int, h1, hx, hF, hP]
  exact hge
set_option maxRecDepth 100000 in
set_option maxHeartbeats 4000000 in
theorem v_numbers (h1 : T.sp n_slices_ContainsFunc_int_int = some sp_ContI) : Verified T ir_lines_numbers sp_numbers := by
  refine Verified.mk ?_
  rintro ds ⟨x, ⟨kind, site, to, label, pick, keep, ⟨c1, c2, c3, c4, c5⟩, line⟩, rfl, hx, hk⟩
  obtain ⟨S, ls, p, rfl⟩ := isCfg_cfgD hx
  have hal := actL_actC ⟨kind, site, to, label, pick, keep, ⟨c1, c2, c3, c4, c5⟩, line⟩
  simp only [sp_numbers, actD, cfgOf_cfgD, hal]
  have hx1 : sp_ContI.hx = none := rfl
  have hF : sp_ContI.F [.fz 1 (keep.map ic), .clo n_lines_numbers_1 []] = .bool (keep.any badK) := by simp only [sp_ContI, intsOf_fz]
  have hP : sp_ContI.pre [.fz 1 (keep.map ic), .clo n_lines_numbers_1 []] = True := by simp only [sp_ContI, eq_iff_iff, iff_true]; exact ⟨keep, rfl, hk⟩
  simp only [n_lines_numbers_1] at hF hP
  have hok := okKeep_any keep
  generalize keep.any badK = bk at hF hok
  have et : (0 ≤ site ∧ site < S ∧ 0 ≤ to ∧ to < S ∧ 0 ≤ label ∧ label < ls.length ∧ 0 ≤ pick ∧ pick ≤ 1048576 ∧ keep.length ≤ ls.length ∧ line.length ≤ 60 ∧ bk = false) ↔ numB S ls.length ⟨kind, site, to, label, pick, keep, ⟨c1, c2, c3, c4, c5⟩, line⟩ := by
    simp only [numB, hok]
    cases bk <;> simp
  have hdec : decide (numB S ls.length ⟨kind, site, to, label, pick, keep, ⟨c1, c2, c3, c4, c5⟩, line⟩) = decide (0 ≤ site ∧ site < S ∧ 0 ≤ to ∧ to < S ∧ 0 ≤ label ∧ label < ls.length ∧ 0 ≤ pick ∧ pick ≤ 1048576 ∧ keep.length ≤ ls.length ∧ line.length ≤ 60 ∧ bk = false) := by
    rw [decide_eq_decide]; exact et.symm
  rw [hdec]
  clear et hdec hok
  generalize hr : decide (0 ≤ site ∧ site < S ∧ 0 ≤ to ∧ to < S ∧ 0 ≤ label ∧ label < ls.length ∧ 0 ≤ pick ∧ pick ≤ 1048576 ∧ keep.length ≤ ls.length ∧ line.length ≤ 60 ∧ bk = false) = r
  simp (implicitDefEqProofs := false) (maxSteps := 10000000) [isMl, VCopsM, mstep, mchk, lchk, kchk, IOp.isB, k_seq, k_block, k_skip, k_reg, k_alt, k_cond, k_exit, k_ret, kf_nil, kf_seq_n, kf_seq_e, kf_seq_r, kf_blk_n, kf_blk_e, kf_blk_r, kf_lp_n, kf_lp_e, kf_lp_r, kf_cut_n, kf_cut_e, kf_cut_r, mkTm, VCops, VCalt, istep, act, gd, applyE, wrapD, Opd.ev, get_mk, set_mk, set_mk0, tget16, tset16, tget_0, tset_0, tget_1, tset_1, tget_2, tset_2, tget_3, tset_3, tget_4, tset_4, tget_5, tset_5, tget_6, tset_6, tget_7, tset_7, tget_8, tset_8, tget_9, tset_9, tget_10, tset_10, tget_11, tset_11, tget_12, tset_12, tget_13, tset_13, tget_14, tset_14, tget_15, tset_15, D.un, D.gu, gus, IOp.opds, binD, fnPost, getRes, IRes.get, oneRes, D.out, outL, D.clos, closL, D.norow, norowL, D.lv, lvL, D.scal, scalL, D.cells, D.cell, D.cell', St.lk, obPut, obDel, List.lookup, cut, pickD, splice, fillParts, fillRows, elem_cons, newsOf, D.pl, D.forget, forgetL, Ob.forget, forgetO, eqCells, sg, leD, leDL, leOb, apartK, St.le, D.keys, keysL, D.rows, rowsL, obKeys, addKeys, reach, pos, D.ren, renL, Ob.ren, inM, outM, inObs, outObs, goneK, apartN, okNames_eq, okNms, obNms, namesOK_nil, namesOK_cons, freeOK_nil, freeOK_cons, D.frz, frzL, Ob.frz, frzO, St.frz, forgetLs, dropObs, putObs, hcall, freeOf, keeps, baseN, shD, isShift, shMax, k_bad, VCopsG, frz_nil, actx, actc, cnum, vwCut, St.frzT, St.opnT, St.clsT, D.opn, opnL, Ob.opn, opnO, VCou, VCcx, St.oneS, D.objI, D.objK, St.objP, St.objQ, St.pathR, St.pathI, pathL, scrL, D.scr, St.opnS, St.clsS, D.cellS, D.fzs, fzsL, k_mrk, k_mrq, IOper.gh, St.bxS, D.tob, tobL, Ob.tob, tobO, zI, zC, zw, zz, zg, zm, zi, zb, zf, zl, za, zs, zn, zo, zd, zy, zu, ze, zk, zt, zc, zp, ir_lines_numbers, h1, hx1, hF, hP, cfgD, actC]
  refine ⟨fun h => ?_, fun g1 g2 g3 g4 g5 g6 g7 g8 g9 g10 => ?_⟩
  · rw [← hr]
    refine decide_eq_false ?_
    rintro ⟨q1, q2, q3, q4, q5, q6, q7, q8, q9, q10, _⟩
    omega
  · rw [← hr]
    cases bk
    · rw [decide_eq_true ⟨g1, g2, g3, g4, g5, g6, g7, g8, g9, by omega, rfl⟩]; rfl
    · rw [decide_eq_false (by rintro ⟨_, _, _, _, _, _, _, _, _, _, h⟩; cases h)]; rfl
set_option maxRecDepth 100000 in
set_option maxHeartbeats 4000000 in
theorem v_bare : Verified T ir_lines_bare sp_bare := by
  refine Verified.mk ?_
  rintro ds ⟨⟨kind, site, to, label, pick, keep, ⟨c1, c2, c3, c4, c5⟩, line⟩, rfl, hk1, hk8⟩
  have hal := actL_actC ⟨kind, site, to, label, pick, keep, ⟨c1, c2, c3, c4, c5⟩, line⟩
  simp only [sp_bare, actD, hal]
  simp only at hk1 hk8
  have hli : line.isEmpty = decide (line = []) := by cases line <;> simp
  rcases (show kind = 1 ∨ kind = 2 ∨ kind = 3 ∨ kind = 4 ∨ kind = 5 ∨ kind = 6 ∨ kind = 7 ∨ kind = 8 by omega) with rfl | rfl | rfl | rfl | rfl | rfl | rfl | rfl
  all_goals simp (implicitDefEqProofs := false) (maxSteps := 10000000) [isMl, VCopsM, mstep, mchk, lchk, kchk, IOp.isB, k_seq, k_block, k_skip, k_reg, k_alt, k_cond, k_exit, k_ret, kf_nil, kf_seq_n, kf_seq_e, kf_seq_r, kf_blk_n, kf_blk_e, kf_blk_r, kf_lp_n, kf_lp_e, kf_lp_r, kf_cut_n, kf_cut_e, kf_cut_r, mkTm, VCops, VCalt, istep, act, gd, applyE, wrapD, Opd.ev, get_mk, set_mk, set_mk0, tget16, tset16, tget_0, tset_0, tget_1, tset_1, tget_2, tset_2, tget_3, tset_3, tget_4, tset_4, tget_5, tset_5, tget_6, tset_6, tget_7, tset_7, tget_8, tset_8, tget_9, tset_9, tget_10, tset_10, tget_11, tset_11, tget_12, tset_12, tget_13, tset_13, tget_14, tset_14, tget_15, tset_15, D.un, D.gu, gus, IOp.opds, binD, fnPost, getRes, IRes.get, oneRes, D.out, outL, D.clos, closL, D.norow, norowL, D.lv, lvL, D.scal, scalL, D.cells, D.cell, D.cell', St.lk, obPut, obDel, List.lookup, cut, pickD, splice, fillParts, fillRows, elem_cons, newsOf, D.pl, D.forget, forgetL, Ob.forget, forgetO, eqCells, sg, leD, leDL, leOb, apartK, St.le, D.keys, keysL, D.rows, rowsL, obKeys, addKeys, reach, pos, D.ren, renL, Ob.ren, inM, outM, inObs, outObs, goneK, apartN, okNames_eq, okNms, obNms, namesOK_nil, namesOK_cons, freeOK_nil, freeOK_cons, D.frz, frzL, Ob.frz, frzO, St.frz, forgetLs, dropObs, putObs, hcall, freeOf, keeps, baseN, shD, isShift, shMax, k_bad, VCopsG, frz_nil, actx, actc, cnum, vwCut, St.frzT, St.opnT, St.clsT, D.opn, opnL, Ob.opn, opnO, VCou, VCcx, St.oneS, D.objI, D.objK, St.objP, St.objQ, St.pathR, St.pathI, pathL, scrL, D.scr, St.opnS, St.clsS, D.cellS, D.fzs, fzsL, k_mrk, k_mrq, IOper.gh, St.bxS, D.tob, tobL, Ob.tob, tobO, zI, zC, zw, zz, zg, zm, zi, zb, zf, zl, za, zs, zn, zo, zd, zy, zu, ze, zk, zt, zc, zp, ir_lines_bare, actC, bareB, pathK, zeroC]
  all_goals first | (simp only [hli, Bool.and_assoc]; done) | (simp only [Bool.and_assoc]; done) | (refine ⟨by grind, ?_⟩; simp only [hli, Bool.and_assoc])
set_option maxRecDepth 100000 in
set_option maxHeartbeats 4000000 in
theorem v_lcall : Verified T ir_lines_call sp_lcall := by
  refine Verified.mk ?_
  rintro ds ⟨⟨c1, c2, c3, c4, c5⟩, rfl⟩
  have hcl : cl5Of (clC ⟨c1, c2, c3, c4, c5⟩) = ⟨c1, c2, c3, c4, c5⟩ := rfl
  simp only [sp_lcall, hcl]
  by_cases hk : c1 < 1 ∨ 5 < c1
  · have hr : callB ⟨c1, c2, c3, c4, c5⟩ = 3 := by rw [callB, if_pos hk]
    rw [hr]
    have hk2 : 1 ≤ c1 → 5 < c1 := fun h => by omega
    by_cases hk1 : c1 < 1
    · simp (implicitDefEqProofs := false) (maxSteps := 10000000) [isMl, VCopsM, mstep, mchk, lchk, kchk, IOp.isB, k_seq, k_block, k_skip, k_reg, k_alt, k_cond, k_exit, k_ret, kf_nil, kf_seq_n, kf_seq_e, kf_seq_r, kf_blk_n, kf_blk_e, kf_blk_r, kf_lp_n, kf_lp_e, kf_lp_r, kf_cut_n, kf_cut_e, kf_cut_r, mkTm, VCops, VCalt, istep, act, gd, applyE, wrapD, Opd.ev, get_mk, set_mk, set_mk0, tget16, tset16, tget_0, tset_0, tget_1, tset_1, tget_2, tset_2, tget_3, tset_3, tget_4, tset_4, tget_5, tset_5, tget_6, tset_6, tget_7, tset_7, tget_8, tset_8, tget_9, tset_9, tget_10, tset_10, tget_11, tset_11, tget_12, tset_12, tget_13, tset_13, tget_14, tset_14, tget_15, tset_15, D.un, D.gu, gus, IOp.opds, binD, fnPost, getRes, IRes.get, oneRes, D.out, outL, D.clos, closL, D.norow, norowL, D.lv, lvL, D.scal, scalL, D.cells, D.cell, D.cell', St.lk, obPut, obDel, List.lookup, cut, pickD, splice, fillParts, fillRows, elem_cons, newsOf, D.pl, D.forget, forgetL, Ob.forget, forgetO, eqCells, sg, leD, leDL, leOb, apartK, St.le, D.keys, keysL, D.rows, rowsL, obKeys, addKeys, reach, pos, D.ren, renL, Ob.ren, inM, outM, inObs, outObs, goneK, apartN, okNames_eq, okNms, obNms, namesOK_nil, namesOK_cons, freeOK_nil, freeOK_cons, D.frz, frzL, Ob.frz, frzO, St.frz, forgetLs, dropObs, putObs, hcall, freeOf, keeps, baseN, shD, isShift, shMax, k_bad, VCopsG, frz_nil, actx, actc, cnum, vwCut, St.frzT, St.opnT, St.clsT, D.opn, opnL, Ob.opn, opnO, VCou, VCcx, St.oneS, D.objI, D.objK, St.objP, St.objQ, St.pathR, St.pathI, pathL, scrL, D.scr, St.opnS, St.clsS, D.cellS, D.fzs, fzsL, k_mrk, k_mrq, IOper.gh, St.bxS, D.tob, tobL, Ob.tob, tobO, zI, zC, zw, zz, zg, zm, zi, zb, zf, zl, za, zs, zn, zo, zd, zy, zu, ze, zk, zt, zc, zp, ir_lines_call, clC, hk1]
    · have := hk2 (by omega)
      simp (implicitDefEqProofs := false) (maxSteps := 10000000) [isMl, VCopsM, mstep, mchk, lchk, kchk, IOp.isB, k_seq, k_block, k_skip, k_reg, k_alt, k_cond, k_exit, k_ret, kf_nil, kf_seq_n, kf_seq_e, kf_seq_r, kf_blk_n, kf_blk_e, kf_blk_r, kf_lp_n, kf_lp_e, kf_lp_r, kf_cut_n, kf_cut_e, kf_cut_r, mkTm, VCops, VCalt, istep, act, gd, applyE, wrapD, Opd.ev, get_mk, set_mk, set_mk0, tget16, tset16, tget_0, tset_0, tget_1, tset_1, tget_2, tset_2, tget_3, tset_3, tget_4, tset_4, tget_5, tset_5, tget_6, tset_6, tget_7, tset_7, tget_8, tset_8, tget_9, tset_9, tget_10, tset_10, tget_11, tset_11, tget_12, tset_12, tget_13, tset_13, tget_14, tset_14, tget_15, tset_15, D.un, D.gu, gus, IOp.opds, binD, fnPost, getRes, IRes.get, oneRes, D.out, outL, D.clos, closL, D.norow, norowL, D.lv, lvL, D.scal, scalL, D.cells, D.cell, D.cell', St.lk, obPut, obDel, List.lookup, cut, pickD, splice, fillParts, fillRows, elem_cons, newsOf, D.pl, D.forget, forgetL, Ob.forget, forgetO, eqCells, sg, leD, leDL, leOb, apartK, St.le, D.keys, keysL, D.rows, rowsL, obKeys, addKeys, reach, pos, D.ren, renL, Ob.ren, inM, outM, inObs, outObs, goneK, apartN, okNames_eq, okNms, obNms, namesOK_nil, namesOK_cons, freeOK_nil, freeOK_cons, D.frz, frzL, Ob.frz, frzO, St.frz, forgetLs, dropObs, putObs, hcall, freeOf, keeps, baseN, shD, isShift, shMax, k_bad, VCopsG, frz_nil, actx, actc, cnum, vwCut, St.frzT, St.opnT, St.clsT, D.opn, opnL, Ob.opn, opnO, VCou, VCcx, St.oneS, D.objI, D.objK, St.objP, St.objQ, St.pathR, St.pathI, pathL, scrL, D.scr, St.opnS, St.clsS, D.cellS, D.fzs, fzsL, k_mrk, k_mrq, IOper.gh, St.bxS, D.tob, tobL, Ob.tob, tobO, zI, zC, zw, zz, zg, zm, zi, zb, zf, zl, za, zs, zn, zo, zd, zy, zu, ze, zk, zt, zc, zp, ir_lines_call, clC, hk1, this]
  · have hr0 : callB ⟨c1, c2, c3, c4, c5⟩ = if ¬ rngC ⟨c1, c2, c3, c4, c5⟩ then 2 else if ¬ frmC ⟨c1, c2, c3, c4, c5⟩ then 4 else 0 := by rw [callB, if_neg hk]
    by_cases hr : rngC ⟨c1, c2, c3, c4, c5⟩
    · rw [hr0, if_neg (by simpa using hr)]
      obtain ⟨q1, q2, q3, q4, q5, q6, q7, q8⟩ := hr
      simp only at q1 q2 q3 q4 q5 q6 q7 q8
      have n1 : ¬ c2 < 0 := by omega
      have n2 : ¬ 1048576 < c2 := by omega
      have n3 : ¬ c3 < 0 := by omega
      have n4 : ¬ 6 ≤ c3 := by omega
      have n5 : ¬ c4 < 0 := by omega
      have n6 : ¬ 8 < c4 := by omega
      have n7 : ¬ c5 < 0 := by omega
      have n8 : ¬ 1073741824 < c5 := by omega
      clear hr0 q1 q2 q3 q4 q5 q6 q7 q8
      rcases (show c1 = 1 ∨ c1 = 2 ∨ c1 = 3 ∨ c1 = 4 ∨ c1 = 5 by omega) with rfl | rfl | rfl | rfl | rfl
      all_goals simp (implicitDefEqProofs := false) (maxSteps := 10000000) [isMl, VCopsM, mstep, mchk, lchk, kchk, IOp.isB, k_seq, k_block, k_skip, k_reg, k_alt, k_cond, k_exit, k_ret, kf_nil, kf_seq_n, kf_seq_e, kf_seq_r, kf_blk_n, kf_blk_e, kf_blk_r, kf_lp_n, kf_lp_e, kf_lp_r, kf_cut_n, kf_cut_e, kf_cut_r, mkTm, VCops, VCalt, istep, act, gd, applyE, wrapD, Opd.ev, get_mk, set_mk, set_mk0, tget16, tset16, tget_0, tset_0, tget_1, tset_1, tget_2, tset_2, tget_3, tset_3, tget_4, tset_4, tget_5, tset_5, tget_6, tset_6, tget_7, tset_7, tget_8, tset_8, tget_9, tset_9, tget_10, tset_10, tget_11, tset_11, tget_12, tset_12, tget_13, tset_13, tget_14, tset_14, tget_15, tset_15, D.un, D.gu, gus, IOp.opds, binD, fnPost, getRes, IRes.get, oneRes, D.out, outL, D.clos, closL, D.norow, norowL, D.lv, lvL, D.scal, scalL, D.cells, D.cell, D.cell', St.lk, obPut, obDel, List.lookup, cut, pickD, splice, fillParts, fillRows, elem_cons, newsOf, D.pl, D.forget, forgetL, Ob.forget, forgetO, eqCells, sg, leD, leDL, leOb, apartK, St.le, D.keys, keysL, D.rows, rowsL, obKeys, addKeys, reach, pos, D.ren, renL, Ob.ren, inM, outM, inObs, outObs, goneK, apartN, okNames_eq, okNms, obNms, namesOK_nil, namesOK_cons, freeOK_nil, freeOK_cons, D.frz, frzL, Ob.frz, frzO, St.frz, forgetLs, dropObs, putObs, hcall, freeOf, keeps, baseN, shD, isShift, shMax, k_bad, VCopsG, frz_nil, actx, actc, cnum, vwCut, St.frzT, St.opnT, St.clsT, D.opn, opnL, Ob.opn, opnO, VCou, VCcx, St.oneS, D.objI, D.objK, St.objP, St.objQ, St.pathR, St.pathI, pathL, scrL, D.scr, St.opnS, St.clsS, D.cellS, D.fzs, fzsL, k_mrk, k_mrq, IOper.gh, St.bxS, D.tob, tobL, Ob.tob, tobO, zI, zC, zw, zz, zg, zm, zi, zb, zf, zl, za, zs, zn, zo, zd, zy, zu, ze, zk, zt, zc, zp, ir_lines_call, clC, frmC, n1, n2, n3, n4, n5, n6, n7, n8]
      all_goals grind
    · rw [hr0, if_pos hr]
      have hk1 : ¬ c1 < 1 := by omega
      have hk2 : ¬ 5 < c1 := by omega
      have hbad : ((((((((c2 < 0 ∨ 1048576 < c2) ∨ c3 < 0) ∨ 6 ≤ c3) ∨ c4 < 0) ∨ 8 < c4) ∨ c5 < 0) ∨ 1073741824 < c5)) := by
        unfold rngC at hr
        simp only at hr
        omega
      simp (implicitDefEqProofs := false) (maxSteps := 10000000) [isMl, VCopsM, mstep, mchk, lchk, kchk, IOp.isB, k_seq, k_block, k_skip, k_reg, k_alt, k_cond, k_exit, k_ret, kf_nil, kf_seq_n, kf_seq_e, kf_seq_r, kf_blk_n, kf_blk_e, kf_blk_r, kf_lp_n, kf_lp_e, kf_lp_r, kf_cut_n, kf_cut_e, kf_cut_r, mkTm, VCops, VCalt, istep, act, gd, applyE, wrapD, Opd.ev, get_mk, set_mk, set_mk0, tget16, tset16, tget_0, tset_0, tget_1, tset_1, tget_2, tset_2, tget_3, tset_3, tget_4, tset_4, tget_5, tset_5, tget_6, tset_6, tget_7, tset_7, tget_8, tset_8, tget_9, tset_9, tget_10, tset_10, tget_11, tset_11, tget_12, tset_12, tget_13, tset_13, tget_14, tset_14, tget_15, tset_15, D.un, D.gu, gus, IOp.opds, binD, fnPost, getRes, IRes.get, oneRes, D.out, outL, D.clos, closL, D.norow, norowL, D.lv, lvL, D.scal, scalL, D.cells, D.cell, D.cell', St.lk, obPut, obDel, List.lookup, cut, pickD, splice, fillParts, fillRows, elem_cons, newsOf, D.pl, D.forget, forgetL, Ob.forget, forgetO, eqCells, sg, leD, leDL, leOb, apartK, St.le, D.keys, keysL, D.rows, rowsL, obKeys, addKeys, reach, pos, D.ren, renL, Ob.ren, inM, outM, inObs, outObs, goneK, apartN, okNames_eq, okNms, obNms, namesOK_nil, namesOK_cons, freeOK_nil, freeOK_cons, D.frz, frzL, Ob.frz, frzO, St.frz, forgetLs, dropObs, putObs, hcall, freeOf, keeps, baseN, shD, isShift, shMax, k_bad, VCopsG, frz_nil, actx, actc, cnum, vwCut, St.frzT, St.opnT, St.clsT, D.opn, opnL, Ob.opn, opnO, VCou, VCcx, St.oneS, D.objI, D.objK, St.objP, St.objQ, St.pathR, St.pathI, pathL, scrL, D.scr, St.opnS, St.clsS, D.cellS, D.fzs, fzsL, k_mrk, k_mrq, IOper.gh, St.bxS, D.tob, tobL, Ob.tob, tobO, zI, zC, zw, zz, zg, zm, zi, zb, zf, zl, za, zs, zn, zo, zd, zy, zu, ze, zk, zt, zc, zp, ir_lines_call, clC, hk1, hk2]
      grind

theorem actD_mk (a : Ac) : D.agg (actC a) = actD a := rfl
set_option maxRecDepth 100000 in
set_option maxHeartbeats 4000000 in
theorem v_LCheck (h1 : T.sp n_label_Check = some sp_Check) (h2 : T.sp n_lines_numbers = some sp_numbers) (h3 : T.sp n_lines_bare = some sp_bare) (h4 : T.sp n_lines_call = some sp_lcall) : Verified T ir_lines_Check sp_LCheck := by
  refine Verified.mk ?_
  rintro ds ⟨x, a, rfl, hx, hk⟩
  obtain ⟨S, ls, p, rfl⟩ := isCfg_cfgD hx
  have hal := actL_actC a
  simp only [sp_LCheck, actD, cfgOf_cfgD, hal]
  have x1 : sp_Check.hx = none := rfl
  have x2 : sp_numbers.hx = none := rfl
  have x3 : sp_bare.hx = none := rfl
  have x4 : sp_lcall.hx = none := rfl
  have f1 : sp_Check.F [cfgD S ls p] = .int .i64 (check S ls p) := by simp only [sp_Check, cfgOf_cfgD]
  have p1 : sp_Check.pre [cfgD S ls p] = True := by simp only [sp_Check, eq_iff_iff, iff_true]; exact ⟨_, rfl, hx⟩
  have f2 : sp_numbers.F [cfgD S ls p, .agg (actC a)] = .bool (decide (numB S ls.length a)) := by simp only [sp_numbers, cfgOf_cfgD, hal]
  have p2 : sp_numbers.pre [cfgD S ls p, .agg (actC a)] = True := by simp only [sp_numbers, eq_iff_iff, iff_true]; exact ⟨_, a, rfl, hx, hk⟩
  have f3 : sp_bare.F [.agg (actC a)] = .bool (decide (bareB a)) := by simp only [sp_bare, hal]
  have p3 : 1 ≤ a.kind → a.kind ≤ 8 → sp_bare.pre [.agg (actC a)] = True := fun h g => by simp only [sp_bare, eq_iff_iff, iff_true]; exact ⟨a, rfl, h, g⟩
  have f4 : sp_lcall.F [.agg (clC a.call)] = .int .i64 (callB a.call) := rfl
  have p4 : sp_lcall.pre [.agg (clC a.call)] = True := by simp only [sp_lcall, eq_iff_iff, iff_true]; exact ⟨a.call, rfl⟩
  have hr : chkA S ls p a = if check S ls p ≠ 0 then check S ls p else if a.kind < 1 ∨ 8 < a.kind then 3 else if ¬ numB S ls.length a then 2 else if ¬ bareB a then 4 else if a.kind = 1 then callB a.call else 0 := rfl
  rw [hr]
  clear hr hal
  by_cases hc : check S ls p = 0
  · rw [if_neg (by simp [hc])]
    rw [hc] at f1
    by_cases hkd : a.kind < 1 ∨ 8 < a.kind
    · rw [if_pos hkd]
      have hk2 : 1 ≤ a.kind → 8 < a.kind := fun h => by omega
      obtain ⟨kind, site, to, label, pick, keep, ⟨c1, c2, c3, c4, c5⟩, line⟩ := a
      simp only [cfgD, actC] at f1 p1 hkd hk2 ⊢
      by_cases hk1 : kind < 1
      · simp (implicitDefEqProofs := false) (maxSteps := 10000000) [isMl, VCopsM, mstep, mchk, lchk, kchk, IOp.isB, k_seq, k_block, k_skip, k_reg, k_alt, k_cond, k_exit, k_ret, kf_nil, kf_seq_n, kf_seq_e, kf_seq_r, kf_blk_n, kf_blk_e, kf_blk_r, kf_lp_n, kf_lp_e, kf_lp_r, kf_cut_n, kf_cut_e, kf_cut_r, mkTm, VCops, VCalt, istep, act, gd, applyE, wrapD, Opd.ev, get_mk, set_mk, set_mk0, tget16, tset16, tget_0, tset_0, tget_1, tset_1, tget_2, tset_2, tget_3, tset_3, tget_4, tset_4, tget_5, tset_5, tget_6, tset_6, tget_7, tset_7, tget_8, tset_8, tget_9, tset_9, tget_10, tset_10, tget_11, tset_11, tget_12, tset_12, tget_13, tset_13, tget_14, tset_14, tget_15, tset_15, D.un, D.gu, gus, IOp.opds, binD, fnPost, getRes, IRes.get, oneRes, D.out, outL, D.clos, closL, D.norow, norowL, D.lv, lvL, D.scal, scalL, D.cells, D.cell, D.cell', St.lk, obPut, obDel, List.lookup, cut, pickD, splice, fillParts, fillRows, elem_cons, newsOf, D.pl, D.forget, forgetL, Ob.forget, forgetO, eqCells, sg, leD, leDL, leOb, apartK, St.le, D.keys, keysL, D.rows, rowsL, obKeys, addKeys, reach, pos, D.ren, renL, Ob.ren, inM, outM, inObs, outObs, goneK, apartN, okNames_eq, okNms, obNms, namesOK_nil, namesOK_cons, freeOK_nil, freeOK_cons, D.frz, frzL, Ob.frz, frzO, St.frz, forgetLs, dropObs, putObs, hcall, freeOf, keeps, baseN, shD, isShift, shMax, k_bad, VCopsG, frz_nil, actx, actc, cnum, vwCut, St.frzT, St.opnT, St.clsT, D.opn, opnL, Ob.opn, opnO, VCou, VCcx, St.oneS, D.objI, D.objK, St.objP, St.objQ, St.pathR, St.pathI, pathL, scrL, D.scr, St.opnS, St.clsS, D.cellS, D.fzs, fzsL, k_mrk, k_mrq, IOper.gh, St.bxS, D.tob, tobL, Ob.tob, tobO, zI, zC, zw, zz, zg, zm, zi, zb, zf, zl, za, zs, zn, zo, zd, zy, zu, ze, zk, zt, zc, zp, ir_lines_Check, h1, x1, f1, p1, hk1]
      · have := hk2 (by omega)
        simp (implicitDefEqProofs := false) (maxSteps := 10000000) [isMl, VCopsM, mstep, mchk, lchk, kchk, IOp.isB, k_seq, k_block, k_skip, k_reg, k_alt, k_cond, k_exit, k_ret, kf_nil, kf_seq_n, kf_seq_e, kf_seq_r, kf_blk_n, kf_blk_e, kf_blk_r, kf_lp_n, kf_lp_e, kf_lp_r, kf_cut_n, kf_cut_e, kf_cut_r, mkTm, VCops, VCalt, istep, act, gd, applyE, wrapD, Opd.ev, get_mk, set_mk, set_mk0, tget16, tset16, tget_0, tset_0, tget_1, tset_1, tget_2, tset_2, tget_3, tset_3, tget_4, tset_4, tget_5, tset_5, tget_6, tset_6, tget_7, tset_7, tget_8, tset_8, tget_9, tset_9, tget_10, tset_10, tget_11, tset_11, tget_12, tset_12, tget_13, tset_13, tget_14, tset_14, tget_15, tset_15, D.un, D.gu, gus, IOp.opds, binD, fnPost, getRes, IRes.get, oneRes, D.out, outL, D.clos, closL, D.norow, norowL, D.lv, lvL, D.scal, scalL, D.cells, D.cell, D.cell', St.lk, obPut, obDel, List.lookup, cut, pickD, splice, fillParts, fillRows, elem_cons, newsOf, D.pl, D.forget, forgetL, Ob.forget, forgetO, eqCells, sg, leD, leDL, leOb, apartK, St.le, D.keys, keysL, D.rows, rowsL, obKeys, addKeys, reach, pos, D.ren, renL, Ob.ren, inM, outM, inObs, outObs, goneK, apartN, okNames_eq, okNms, obNms, namesOK_nil, namesOK_cons, freeOK_nil, freeOK_cons, D.frz, frzL, Ob.frz, frzO, St.frz, forgetLs, dropObs, putObs, hcall, freeOf, keeps, baseN, shD, isShift, shMax, k_bad, VCopsG, frz_nil, actx, actc, cnum, vwCut, St.frzT, St.opnT, St.clsT, D.opn, opnL, Ob.opn, opnO, VCou, VCcx, St.oneS, D.objI, D.objK, St.objP, St.objQ, St.pathR, St.pathI, pathL, scrL, D.scr, St.opnS, St.clsS, D.cellS, D.fzs, fzsL, k_mrk, k_mrq, IOper.gh, St.bxS, D.tob, tobL, Ob.tob, tobO, zI, zC, zw, zz, zg, zm, zi, zb, zf, zl, za, zs, zn, zo, zd, zy, zu, ze, zk, zt, zc, zp, ir_lines_Check, h1, x1, f1, p1, hk1, this]
    · rw [if_neg hkd]
      have p3' := p3 (by omega) (by omega)
      clear p3
      have k1 : ¬ a.kind < 1 := by omega
      have k2 : ¬ 8 < a.kind := by omega
      by_cases hn : numB S ls.length a
      · rw [if_neg (by simpa using hn)]
        rw [decide_eq_true hn] at f2
        by_cases hb : bareB a
        · rw [if_neg (by simpa using hb)]
          rw [decide_eq_true hb] at f3
          generalize callB a.call = e at f4 ⊢
          clear hn hb hkd
          obtain ⟨kind, site, to, label, pick, keep, ⟨c1, c2, c3, c4, c5⟩, line⟩ := a
          simp only [cfgD, actC, clC] at f1 p1 f2 p2 f3 p3' f4 p4 k1 k2 ⊢
          by_cases h1k : kind = 1
          · subst h1k
            simp (implicitDefEqProofs := false) (maxSteps := 10000000) [isMl, VCopsM, mstep, mchk, lchk, kchk, IOp.isB, k_seq, k_block, k_skip, k_reg, k_alt, k_cond, k_exit, k_ret, kf_nil, kf_seq_n, kf_seq_e, kf_seq_r, kf_blk_n, kf_blk_e, kf_blk_r, kf_lp_n, kf_lp_e, kf_lp_r, kf_cut_n, kf_cut_e, kf_cut_r, mkTm, VCops, VCalt, istep, act, gd, applyE, wrapD, Opd.ev, get_mk, set_mk, set_mk0, tget16, tset16, tget_0, tset_0, tget_1, tset_1, tget_2, tset_2, tget_3, tset_3, tget_4, tset_4, tget_5, tset_5, tget_6, tset_6, tget_7, tset_7, tget_8, tset_8, tget_9, tset_9, tget_10, tset_10, tget_11, tset_11, tget_12, tset_12, tget_13, tset_13, tget_14, tset_14, tget_15, tset_15, D.un, D.gu, gus, IOp.opds, binD, fnPost, getRes, IRes.get, oneRes, D.out, outL, D.clos, closL, D.norow, norowL, D.lv, lvL, D.scal, scalL, D.cells, D.cell, D.cell', St.lk, obPut, obDel, List.lookup, cut, pickD, splice, fillParts, fillRows, elem_cons, newsOf, D.pl, D.forget, forgetL, Ob.forget, forgetO, eqCells, sg, leD, leDL, leOb, apartK, St.le, D.keys, keysL, D.rows, rowsL, obKeys, addKeys, reach, pos, D.ren, renL, Ob.ren, inM, outM, inObs, outObs, goneK, apartN, okNames_eq, okNms, obNms, namesOK_nil, namesOK_cons, freeOK_nil, freeOK_cons, D.frz, frzL, Ob.frz, frzO, St.frz, forgetLs, dropObs, putObs, hcall, freeOf, keeps, baseN, shD, isShift, shMax, k_bad, VCopsG, frz_nil, actx, actc, cnum, vwCut, St.frzT, St.opnT, St.clsT, D.opn, opnL, Ob.opn, opnO, VCou, VCcx, St.oneS, D.objI, D.objK, St.objP, St.objQ, St.pathR, St.pathI, pathL, scrL, D.scr, St.opnS, St.clsS, D.cellS, D.fzs, fzsL, k_mrk, k_mrq, IOper.gh, St.bxS, D.tob, tobL, Ob.tob, tobO, zI, zC, zw, zz, zg, zm, zi, zb, zf, zl, za, zs, zn, zo, zd, zy, zu, ze, zk, zt, zc, zp, ir_lines_Check, h1, h2, h3, h4, x1, x2, x3, x4, f1, p1, f2, p2, f3, p3', f4, p4]
          · simp (implicitDefEqProofs := false) (maxSteps := 10000000) [isMl, VCopsM, mstep, mchk, lchk, kchk, IOp.isB, k_seq, k_block, k_skip, k_reg, k_alt, k_cond, k_exit, k_ret, kf_nil, kf_seq_n, kf_seq_e, kf_seq_r, kf_blk_n, kf_blk_e, kf_blk_r, kf_lp_n, kf_lp_e, kf_lp_r, kf_cut_n, kf_cut_e, kf_cut_r, mkTm, VCops, VCalt, istep, act, gd, applyE, wrapD, Opd.ev, get_mk, set_mk, set_mk0, tget16, tset16, tget_0, tset_0, tget_1, tset_1, tget_2, tset_2, tget_3, tset_3, tget_4, tset_4, tget_5, tset_5, tget_6, tset_6, tget_7, tset_7, tget_8, tset_8, tget_9, tset_9, tget_10, tset_10, tget_11, tset_11, tget_12, tset_12, tget_13, tset_13, tget_14, tset_14, tget_15, tset_15, D.un, D.gu, gus, IOp.opds, binD, fnPost, getRes, IRes.get, oneRes, D.out, outL, D.clos, closL, D.norow, norowL, D.lv, lvL, D.scal, scalL, D.cells, D.cell, D.cell', St.lk, obPut, obDel, List.lookup, cut, pickD, splice, fillParts, fillRows, elem_cons, newsOf, D.pl, D.forget, forgetL, Ob.forget, forgetO, eqCells, sg, leD, leDL, leOb, apartK, St.le, D.keys, keysL, D.rows, rowsL, obKeys, addKeys, reach, pos, D.ren, renL, Ob.ren, inM, outM, inObs, outObs, goneK, apartN, okNames_eq, okNms, obNms, namesOK_nil, namesOK_cons, freeOK_nil, freeOK_cons, D.frz, frzL, Ob.frz, frzO, St.frz, forgetLs, dropObs, putObs, hcall, freeOf, keeps, baseN, shD, isShift, shMax, k_bad, VCopsG, frz_nil, actx, actc, cnum, vwCut, St.frzT, St.opnT, St.clsT, D.opn, opnL, Ob.opn, opnO, VCou, VCcx, St.oneS, D.objI, D.objK, St.objP, St.objQ, St.pathR, St.pathI, pathL, scrL, D.scr, St.opnS, St.clsS, D.cellS, D.fzs, fzsL, k_mrk, k_mrq, IOper.gh, St.bxS, D.tob, tobL, Ob.tob, tobO, zI, zC, zw, zz, zg, zm, zi, zb, zf, zl, za, zs, zn, zo, zd, zy, zu, ze, zk, zt, zc, zp, ir_lines_Check, h1, h2, h3, x1, x2, x3, f1, p1, f2, p2, f3, p3', k1, k2, h1k]
        · rw [if_pos hb]
          rw [decide_eq_false hb] at f3
          clear hn hb hkd
          obtain ⟨kind, site, to, label, pick, keep, ⟨c1, c2, c3, c4, c5⟩, line⟩ := a
          simp only [cfgD, actC, clC] at f1 p1 f2 p2 f3 p3' k1 k2 ⊢
          simp (implicitDefEqProofs := false) (maxSteps := 10000000) [isMl, VCopsM, mstep, mchk, lchk, kchk, IOp.isB, k_seq, k_block, k_skip, k_reg, k_alt, k_cond, k_exit, k_ret, kf_nil, kf_seq_n, kf_seq_e, kf_seq_r, kf_blk_n, kf_blk_e, kf_blk_r, kf_lp_n, kf_lp_e, kf_lp_r, kf_cut_n, kf_cut_e, kf_cut_r, mkTm, VCops, VCalt, istep, act, gd, applyE, wrapD, Opd.ev, get_mk, set_mk, set_mk0, tget16, tset16, tget_0, tset_0, tget_1, tset_1, tget_2, tset_2, tget_3, tset_3, tget_4, tset_4, tget_5, tset_5, tget_6, tset_6, tget_7, tset_7, tget_8, tset_8, tget_9, tset_9, tget_10, tset_10, tget_11, tset_11, tget_12, tset_12, tget_13, tset_13, tget_14, tset_14, tget_15, tset_15, D.un, D.gu, gus, IOp.opds, binD, fnPost, getRes, IRes.get, oneRes, D.out, outL, D.clos, closL, D.norow, norowL, D.lv, lvL, D.scal, scalL, D.cells, D.cell, D.cell', St.lk, obPut, obDel, List.lookup, cut, pickD, splice, fillParts, fillRows, elem_cons, newsOf, D.pl, D.forget, forgetL, Ob.forget, forgetO, eqCells, sg, leD, leDL, leOb, apartK, St.le, D.keys, keysL, D.rows, rowsL, obKeys, addKeys, reach, pos, D.ren, renL, Ob.ren, inM, outM, inObs, outObs, goneK, apartN, okNames_eq, okNms, obNms, namesOK_nil, namesOK_cons, freeOK_nil, freeOK_cons, D.frz, frzL, Ob.frz, frzO, St.frz, forgetLs, dropObs, putObs, hcall, freeOf, keeps, baseN, shD, isShift, shMax, k_bad, VCopsG, frz_nil, actx, actc, cnum, vwCut, St.frzT, St.opnT, St.clsT, D.opn, opnL, Ob.opn, opnO, VCou, VCcx, St.oneS, D.objI, D.objK, St.objP, St.objQ, St.pathR, St.pathI, pathL, scrL, D.scr, St.opnS, St.clsS, D.cellS, D.fzs, fzsL, k_mrk, k_mrq, IOper.gh, St.bxS, D.tob, tobL, Ob.tob, tobO, zI, zC, zw, zz, zg, zm, zi, zb, zf, zl, za, zs, zn, zo, zd, zy, zu, ze, zk, zt, zc, zp, ir_lines_Check, h1, h2, h3, x1, x2, x3, f1, p1, f2, p2, f3, p3', k1, k2]
      · rw [if_pos hn]
        rw [decide_eq_false hn] at f2
        clear hn hkd
        obtain ⟨kind, site, to, label, pick, keep, ⟨c1, c2, c3, c4, c5⟩, line⟩ := a
        simp only [cfgD, actC, clC] at f1 p1 f2 p2 k1 k2 ⊢
        simp (implicitDefEqProofs := false) (maxSteps := 10000000) [isMl, VCopsM, mstep, mchk, lchk, kchk, IOp.isB, k_seq, k_block, k_skip, k_reg, k_alt, k_cond, k_exit, k_ret, kf_nil, kf_seq_n, kf_seq_e, kf_seq_r, kf_blk_n, kf_blk_e, kf_blk_r, kf_lp_n, kf_lp_e, kf_lp_r, kf_cut_n, kf_cut_e, kf_cut_r, mkTm, VCops, VCalt, istep, act, gd, applyE, wrapD, Opd.ev, get_mk, set_mk, set_mk0, tget16, tset16, tget_0, tset_0, tget_1, tset_1, tget_2, tset_2, tget_3, tset_3, tget_4, tset_4, tget_5, tset_5, tget_6, tset_6, tget_7, tset_7, tget_8, tset_8, tget_9, tset_9, tget_10, tset_10, tget_11, tset_11, tget_12, tset_12, tget_13, tset_13, tget_14, tset_14, tget_15, tset_15, D.un, D.gu, gus, IOp.opds, binD, fnPost, getRes, IRes.get, oneRes, D.out, outL, D.clos, closL, D.norow, norowL, D.lv, lvL, D.scal, scalL, D.cells, D.cell, D.cell', St.lk, obPut, obDel, List.lookup, cut, pickD, splice, fillParts, fillRows, elem_cons, newsOf, D.pl, D.forget, forgetL, Ob.forget, forgetO, eqCells, sg, leD, leDL, leOb, apartK, St.le, D.keys, keysL, D.rows, rowsL, obKeys, addKeys, reach, pos, D.ren, renL, Ob.ren, inM, outM, inObs, outObs, goneK, apartN, okNames_eq, okNms, obNms, namesOK_nil, namesOK_cons, freeOK_nil, freeOK_cons, D.frz, frzL, Ob.frz, frzO, St.frz, forgetLs, dropObs, putObs, hcall, freeOf, keeps, baseN, shD, isShift, shMax, k_bad, VCopsG, frz_nil, actx, actc, cnum, vwCut, St.frzT, St.opnT, St.clsT, D.opn, opnL, Ob.opn, opnO, VCou, VCcx, St.oneS, D.objI, D.objK, St.objP, St.objQ, St.pathR, St.pathI, pathL, scrL, D.scr, St.opnS, St.clsS, D.cellS, D.fzs, fzsL, k_mrk, k_mrq, IOper.gh, St.bxS, D.tob, tobL, Ob.tob, tobO, zI, zC, zw, zz, zg, zm, zi, zb, zf, zl, za, zs, zn, zo, zd, zy, zu, ze, zk, zt, zc, zp, ir_lines_Check, h1, h2, x1, x2, f1, p1, f2, p2, k1, k2]
  · rw [if_pos hc]
    obtain ⟨kind, site, to, label, pick, keep, ⟨c1, c2, c3, c4, c5⟩, line⟩ := a
    generalize check S ls p = e at hc f1 ⊢
    simp only [cfgD, actC] at f1 p1 ⊢
    simp (implicitDefEqProofs := false) (maxSteps := 10000000) [isMl, VCopsM, mstep, mchk, lchk, kchk, IOp.isB, k_seq, k_block, k_skip, k_reg, k_alt, k_cond, k_exit, k_ret, kf_nil, kf_seq_n, kf_seq_e, kf_seq_r, kf_blk_n, kf_blk_e, kf_blk_r, kf_lp_n, kf_lp_e, kf_lp_r, kf_cut_n, kf_cut_e, kf_cut_r, mkTm, VCops, VCalt, istep, act, gd, applyE, wrapD, Opd.ev, get_mk, set_mk, set_mk0, tget16, tset16, tget_0, tset_0, tget_1, tset_1, tget_2, tset_2, tget_3, tset_3, tget_4, tset_4, tget_5, tset_5, tget_6, tset_6, tget_7, tset_7, tget_8, tset_8, tget_9, tset_9, tget_10, tset_10, tget_11, tset_11, tget_12, tset_12, tget_13, tset_13, tget_14, tset_14, tget_15, tset_15, D.un, D.gu, gus, IOp.opds, binD, fnPost, getRes, IRes.get, oneRes, D.out, outL, D.clos, closL, D.norow, norowL, D.lv, lvL, D.scal, scalL, D.cells, D.cell, D.cell', St.lk, obPut, obDel, List.lookup, cut, pickD, splice, fillParts, fillRows, elem_cons, newsOf, D.pl, D.forget, forgetL, Ob.forget, forgetO, eqCells, sg, leD, leDL, leOb, apartK, St.le, D.keys, keysL, D.rows, rowsL, obKeys, addKeys, reach, pos, D.ren, renL, Ob.ren, inM, outM, inObs, outObs, goneK, apartN, okNames_eq, okNms, obNms, namesOK_nil, namesOK_cons, freeOK_nil, freeOK_cons, D.frz, frzL, Ob.frz, frzO, St.frz, forgetLs, dropObs, putObs, hcall, freeOf, keeps, baseN, shD, isShift, shMax, k_bad, VCopsG, frz_nil, actx, actc, cnum, vwCut, St.frzT, St.opnT, St.clsT, D.opn, opnL, Ob.opn, opnO, VCou, VCcx, St.oneS, D.objI, D.objK, St.objP, St.objQ, St.pathR, St.pathI, pathL, scrL, D.scr, St.opnS, St.clsS, D.cellS, D.fzs, fzsL, k_mrk, k_mrq, IOper.gh, St.bxS, D.tob, tobL, Ob.tob, tobO, zI, zC, zw, zz, zg, zm, zi, zb, zf, zl, za, zs, zn, zo, zd, zy, zu, ze, zk, zt, zc, zp, ir_lines_Check, h1, x1, f1, p1, hc]
end
end Go.Proofs.YtgioabhamihfmaaGreatDoor
