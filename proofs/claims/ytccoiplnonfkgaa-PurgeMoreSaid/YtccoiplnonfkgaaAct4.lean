/-
  Acts that are alike, labels that see one another: the functions compute what the plain functions beside them say. Conditions: those of each specification's 'pre'.
-/
import Derived.Test.YtccoiplnonfkgaaAct3
set_option linter.unusedVariables false
set_option linter.unusedSimpArgs false
namespace Go.Proofs.Ytccoiplnonfkgaa
open Go Go.Vcg

/-! ### What the specifications are at given arguments -/
theorem cfg_is (S : Int) (ls : List (Int × Int)) (p : Int) : isCfg (.agg [.int .i64 S, .fz 2 (ls.map lbc), .int .i64 p]) = true := by
  simp [isCfg, isLb_lbc]
theorem cfg_at (S : Int) (ls : List (Int × Int)) (p : Int) : cfgOf (.agg [.int .i64 S, .fz 2 (ls.map lbc), .int .i64 p]) = (S, ls, p) := cfgOf_cfgD S ls p
def inL (ls : List (Int × Int)) (l : Int) : Bool := decide (0 ≤ l) && decide (l < ls.length)
theorem inL_true {ls : List (Int × Int)} {l : Int} (h : inL ls l = true) : ∃ n : Nat, l = n ∧ n < ls.length := by
  simp only [inL, Bool.and_eq_true, decide_eq_true_eq] at h
  exact ⟨l.toNat, by omega, by omega⟩
theorem hx_place : sp_place.hx = none := rfl
theorem pre_place (S : Int) (ls : List (Int × Int)) (p l : Int) : sp_place.pre [.agg [.int .i64 S, .fz 2 (ls.map lbc), .int .i64 p], .int .i64 l] = True := by
  simp only [sp_place, eq_iff_iff, iff_true]
  exact ⟨_, _, rfl, cfg_is S ls p⟩
theorem F_place (S : Int) (ls : List (Int × Int)) (p l : Int) : sp_place.F [.agg [.int .i64 S, .fz 2 (ls.map lbc), .int .i64 p], .int .i64 l] = .bool (inL ls l) := by
  simp only [sp_place, cfg_at, inL]
theorem hx_Check : sp_Check.hx = none := rfl
theorem pre_Check (S : Int) (ls : List (Int × Int)) (p : Int) : sp_Check.pre [.agg [.int .i64 S, .fz 2 (ls.map lbc), .int .i64 p]] = True := by
  simp only [sp_Check, eq_iff_iff, iff_true]
  exact ⟨_, rfl, cfg_is S ls p⟩
theorem F_Check (S : Int) (ls : List (Int × Int)) (p : Int) : sp_Check.F [.agg [.int .i64 S, .fz 2 (ls.map lbc), .int .i64 p]] = .int .i64 (check S ls p) := by
  simp only [sp_Check, cfg_at]
theorem hx_Above : sp_Above.hx = none := rfl
theorem pre_Above (a b c d : Int) : sp_Above.pre [.agg [.int .i64 a, .int .i64 b], .agg [.int .i64 c, .int .i64 d]] = True := by
  simp only [sp_Above, eq_iff_iff, iff_true]
  exact ⟨(a, b), (c, d), rfl⟩
theorem F_Above (a b c d : Int) : sp_Above.F [.agg [.int .i64 a, .int .i64 b], .agg [.int .i64 c, .int .i64 d]] = .bool (above (a, b) (c, d)) := rfl
theorem hx_sameInts : sp_sameInts.hx = none := rfl
theorem pre_sameInts (a b : List Int) (ha : a.length ≤ 1000000) (hb : b.length ≤ 1000000) : sp_sameInts.pre [.fz 1 (a.map ic), .fz 1 (b.map ic)] = True := by
  simp only [sp_sameInts, eq_iff_iff, iff_true]
  exact ⟨a, b, rfl, ha, hb⟩
theorem F_sameInts (a b : List Int) : sp_sameInts.F [.fz 1 (a.map ic), .fz 1 (b.map ic)] = .bool (decide (a = b)) := by
  have h1 := intsOf_intsD a
  have h2 := intsOf_intsD b
  simp only [intsD] at h1 h2
  simp only [sp_sameInts, h1, h2]

noncomputable instance : DecidableEq Ac := fun a b => Classical.propDecidable (a = b)
noncomputable def sp_sameActs : Sp := { pre := fun ds => ∃ a b, ds = [actsD a, actsD b] ∧ (∀ x ∈ a, okAc x) ∧ (∀ x ∈ b, okAc x) ∧ a.length ≤ 1000000 ∧ b.length ≤ 1000000, F := fun | [x, y] => .bool (decide (actsOf x = actsOf y)) | _ => .any }
theorem hx_sameActs : sp_sameActs.hx = none := rfl
theorem pre_sameActs (a b : List Ac) (h1 : ∀ x ∈ a, okAc x) (h2 : ∀ x ∈ b, okAc x) (h3 : a.length ≤ 1000000) (h4 : b.length ≤ 1000000) : sp_sameActs.pre [.fz 12 (a.map actC), .fz 12 (b.map actC)] = True := by
  simp only [sp_sameActs, eq_iff_iff, iff_true]
  exact ⟨a, b, rfl, h1, h2, h3, h4⟩
theorem F_sameActs (a b : List Ac) : sp_sameActs.F [.fz 12 (a.map actC), .fz 12 (b.map actC)] = .bool (decide (a = b)) := by
  have h1 := actsOf_actsD a
  have h2 := actsOf_actsD b
  simp only [actsD] at h1 h2
  simp only [sp_sameActs, h1, h2]

def sees (S : Int) (ls : List (Int × Int)) (p a b : Int) : Bool × Int :=
  if check S ls p ≠ 0 then (false, check S ls p) else if inL ls a = true ∧ inL ls b = true then (above (ls.getD a.toNat (0, 0)) (ls.getD b.toNat (0, 0)), 0) else (false, 6)
def sp_Sees : Sp := { pre := fun ds => ∃ x a b, ds = [x, .int .i64 a, .int .i64 b] ∧ isCfg x = true, F := fun | [x, .int _ a, .int _ b] => .tup [.bool (sees (cfgOf x).1 (cfgOf x).2.1 (cfgOf x).2.2 a b).1, .int .i64 (sees (cfgOf x).1 (cfgOf x).2.1 (cfgOf x).2.2 a b).2] | _ => .any }
theorem hx_Sees : sp_Sees.hx = none := rfl
theorem pre_Sees (S : Int) (ls : List (Int × Int)) (p a b : Int) : sp_Sees.pre [.agg [.int .i64 S, .fz 2 (ls.map lbc), .int .i64 p], .int .i64 a, .int .i64 b] = True := by
  simp only [sp_Sees, eq_iff_iff, iff_true]
  exact ⟨_, _, _, rfl, cfg_is S ls p⟩
theorem F_Sees (S : Int) (ls : List (Int × Int)) (p a b : Int) : sp_Sees.F [.agg [.int .i64 S, .fz 2 (ls.map lbc), .int .i64 p], .int .i64 a, .int .i64 b] = .tup [.bool (sees S ls p a b).1, .int .i64 (sees S ls p a b).2] := by
  simp only [sp_Sees, cfg_at]
def seen (S : Int) (ls : List (Int × Int)) (p a b : Int) : Bool := (sees S ls p a b).1 && ((sees S ls p a b).2 == 0)
def sp_seen : Sp := { pre := sp_Sees.pre, F := fun | [x, .int _ a, .int _ b] => .bool (seen (cfgOf x).1 (cfgOf x).2.1 (cfgOf x).2.2 a b) | _ => .any }
theorem hx_seen : sp_seen.hx = none := rfl
theorem pre_seen (S : Int) (ls : List (Int × Int)) (p a b : Int) : sp_seen.pre [.agg [.int .i64 S, .fz 2 (ls.map lbc), .int .i64 p], .int .i64 a, .int .i64 b] = True := pre_Sees S ls p a b
theorem F_seen (S : Int) (ls : List (Int × Int)) (p a b : Int) : sp_seen.F [.agg [.int .i64 S, .fz 2 (ls.map lbc), .int .i64 p], .int .i64 a, .int .i64 b] = .bool (seen S ls p a b) := by
  simp only [sp_seen, cfg_at]

section
variable {T : Tb}
theorem v_Sees (h1 : T.sp n_label_Check = some sp_Check) (h2 : T.sp n_label_place = some sp_place) (h4 : T.sp n_label_Above = some sp_Above) : Verified T ir_label_Sees sp_Sees := by
  refine Verified.mk ?_
  rintro ds ⟨x, a, b, rfl, hx⟩
  obtain ⟨S, ls, p, rfl⟩ := isCfg_cfgD hx
  simp only [cfgD, F_Sees]
  by_cases hc : check S ls p = 0
  · cases ha : inL ls a with
    | false =>
      have : sees S ls p a b = (false, 6) := by rw [sees, if_neg (by simp [hc]), if_neg (by simp [ha])]
      simp (implicitDefEqProofs := false) [k_seq, k_block, k_skip, k_reg, k_alt, k_cond, k_exit, k_ret, kf_nil, kf_seq_n, kf_seq_e, kf_seq_r, kf_blk_n, kf_blk_e, kf_blk_r, kf_lp_n, kf_lp_e, kf_lp_r, kf_cut_n, kf_cut_e, kf_cut_r, mkTm, VCops, VCalt, istep, act, gd, applyE, wrapD, Opd.ev, get_mk, set_mk, set_mk0, tget16, tset16, tget_0, tset_0, tget_1, tset_1, tget_2, tset_2, tget_3, tset_3, tget_4, tset_4, tget_5, tset_5, tget_6, tset_6, tget_7, tset_7, tget_8, tset_8, tget_9, tset_9, tget_10, tset_10, tget_11, tset_11, tget_12, tset_12, tget_13, tset_13, tget_14, tset_14, tget_15, tset_15, D.un, D.gu, gus, IOp.opds, binD, fnPost, getRes, IRes.get, oneRes, D.out, outL, D.clos, closL, D.norow, norowL, D.lv, lvL, D.scal, scalL, D.cells, D.cell, D.cell', St.lk, obPut, obDel, List.lookup, cut, pickD, splice, fillParts, fillRows, elem_cons, newsOf, D.pl, D.forget, forgetL, Ob.forget, forgetO, eqCells, sg, leD, leDL, leOb, apartK, St.le, D.keys, keysL, D.rows, rowsL, obKeys, addKeys, reach, pos, D.ren, renL, Ob.ren, inM, outM, inObs, outObs, goneK, apartN, okNames, D.frz, frzL, Ob.frz, frzO, St.frz, forgetLs, dropObs, putObs, hcall, freeOf, keeps, baseN, shD, isShift, shMax, k_bad, ir_label_Sees, h1, h2, hx_Check, pre_Check, F_Check, hx_place, pre_place, F_place, hc, ha, this]
    | true =>
      obtain ⟨a, rfl, hal⟩ := inL_true ha
      have e1 := elem_map lbc ls a hal
      cases hb : inL ls b with
      | false =>
        have : sees S ls p a b = (false, 6) := by rw [sees, if_neg (by simp [hc]), if_neg (by simp [hb])]
        simp (implicitDefEqProofs := false) [k_seq, k_block, k_skip, k_reg, k_alt, k_cond, k_exit, k_ret, kf_nil, kf_seq_n, kf_seq_e, kf_seq_r, kf_blk_n, kf_blk_e, kf_blk_r, kf_lp_n, kf_lp_e, kf_lp_r, kf_cut_n, kf_cut_e, kf_cut_r, mkTm, VCops, VCalt, istep, act, gd, applyE, wrapD, Opd.ev, get_mk, set_mk, set_mk0, tget16, tset16, tget_0, tset_0, tget_1, tset_1, tget_2, tset_2, tget_3, tset_3, tget_4, tset_4, tget_5, tset_5, tget_6, tset_6, tget_7, tset_7, tget_8, tset_8, tget_9, tset_9, tget_10, tset_10, tget_11, tset_11, tget_12, tset_12, tget_13, tset_13, tget_14, tset_14, tget_15, tset_15, D.un, D.gu, gus, IOp.opds, binD, fnPost, getRes, IRes.get, oneRes, D.out, outL, D.clos, closL, D.norow, norowL, D.lv, lvL, D.scal, scalL, D.cells, D.cell, D.cell', St.lk, obPut, obDel, List.lookup, cut, pickD, splice, fillParts, fillRows, elem_cons, newsOf, D.pl, D.forget, forgetL, Ob.forget, forgetO, eqCells, sg, leD, leDL, leOb, apartK, St.le, D.keys, keysL, D.rows, rowsL, obKeys, addKeys, reach, pos, D.ren, renL, Ob.ren, inM, outM, inObs, outObs, goneK, apartN, okNames, D.frz, frzL, Ob.frz, frzO, St.frz, forgetLs, dropObs, putObs, hcall, freeOf, keeps, baseN, shD, isShift, shMax, k_bad, ir_label_Sees, h1, h2, hx_Check, pre_Check, F_Check, hx_place, pre_place, F_place, hc, ha, hb, this]
      | true =>
        obtain ⟨b, rfl, hbl⟩ := inL_true hb
        have e2 := elem_map lbc ls b hbl
        have : sees S ls p a b = (above ls[a] ls[b], 0) := by rw [sees, if_neg (by simp [hc]), if_pos ⟨ha, hb⟩]; simp [hal, hbl]
        simp (implicitDefEqProofs := false) [k_seq, k_block, k_skip, k_reg, k_alt, k_cond, k_exit, k_ret, kf_nil, kf_seq_n, kf_seq_e, kf_seq_r, kf_blk_n, kf_blk_e, kf_blk_r, kf_lp_n, kf_lp_e, kf_lp_r, kf_cut_n, kf_cut_e, kf_cut_r, mkTm, VCops, VCalt, istep, act, gd, applyE, wrapD, Opd.ev, get_mk, set_mk, set_mk0, tget16, tset16, tget_0, tset_0, tget_1, tset_1, tget_2, tset_2, tget_3, tset_3, tget_4, tset_4, tget_5, tset_5, tget_6, tset_6, tget_7, tset_7, tget_8, tset_8, tget_9, tset_9, tget_10, tset_10, tget_11, tset_11, tget_12, tset_12, tget_13, tset_13, tget_14, tset_14, tget_15, tset_15, D.un, D.gu, gus, IOp.opds, binD, fnPost, getRes, IRes.get, oneRes, D.out, outL, D.clos, closL, D.norow, norowL, D.lv, lvL, D.scal, scalL, D.cells, D.cell, D.cell', St.lk, obPut, obDel, List.lookup, cut, pickD, splice, fillParts, fillRows, elem_cons, newsOf, D.pl, D.forget, forgetL, Ob.forget, forgetO, eqCells, sg, leD, leDL, leOb, apartK, St.le, D.keys, keysL, D.rows, rowsL, obKeys, addKeys, reach, pos, D.ren, renL, Ob.ren, inM, outM, inObs, outObs, goneK, apartN, okNames, D.frz, frzL, Ob.frz, frzO, St.frz, forgetLs, dropObs, putObs, hcall, freeOf, keeps, baseN, shD, isShift, shMax, k_bad, ir_label_Sees, h1, h2, h4, hx_Check, pre_Check, F_Check, hx_place, pre_place, F_place, hx_Above, pre_Above, F_Above, hc, ha, hb, this, e1, e2, lbc, hal, hbl]
  · have : sees S ls p a b = (false, check S ls p) := by rw [sees, if_pos hc]
    simp (implicitDefEqProofs := false) [k_seq, k_block, k_skip, k_reg, k_alt, k_cond, k_exit, k_ret, kf_nil, kf_seq_n, kf_seq_e, kf_seq_r, kf_blk_n, kf_blk_e, kf_blk_r, kf_lp_n, kf_lp_e, kf_lp_r, kf_cut_n, kf_cut_e, kf_cut_r, mkTm, VCops, VCalt, istep, act, gd, applyE, wrapD, Opd.ev, get_mk, set_mk, set_mk0, tget16, tset16, tget_0, tset_0, tget_1, tset_1, tget_2, tset_2, tget_3, tset_3, tget_4, tset_4, tget_5, tset_5, tget_6, tset_6, tget_7, tset_7, tget_8, tset_8, tget_9, tset_9, tget_10, tset_10, tget_11, tset_11, tget_12, tset_12, tget_13, tset_13, tget_14, tset_14, tget_15, tset_15, D.un, D.gu, gus, IOp.opds, binD, fnPost, getRes, IRes.get, oneRes, D.out, outL, D.clos, closL, D.norow, norowL, D.lv, lvL, D.scal, scalL, D.cells, D.cell, D.cell', St.lk, obPut, obDel, List.lookup, cut, pickD, splice, fillParts, fillRows, elem_cons, newsOf, D.pl, D.forget, forgetL, Ob.forget, forgetO, eqCells, sg, leD, leDL, leOb, apartK, St.le, D.keys, keysL, D.rows, rowsL, obKeys, addKeys, reach, pos, D.ren, renL, Ob.ren, inM, outM, inObs, outObs, goneK, apartN, okNames, D.frz, frzL, Ob.frz, frzO, St.frz, forgetLs, dropObs, putObs, hcall, freeOf, keeps, baseN, shD, isShift, shMax, k_bad, ir_label_Sees, h1, h2, hx_Check, pre_Check, F_Check, hc, this]

theorem v_seen (h1 : T.sp n_label_Sees = some sp_Sees) : Verified T ir_reredoskeep_seen sp_seen := by
  refine Verified.mk ?_
  rintro ds ⟨x, a, b, rfl, hx⟩
  obtain ⟨S, ls, p, rfl⟩ := isCfg_cfgD hx
  simp only [cfgD, F_seen]
  cases hs : (sees S ls p a b).1 with
  | false => simp (implicitDefEqProofs := false) [k_seq, k_block, k_skip, k_reg, k_alt, k_cond, k_exit, k_ret, kf_nil, kf_seq_n, kf_seq_e, kf_seq_r, kf_blk_n, kf_blk_e, kf_blk_r, kf_lp_n, kf_lp_e, kf_lp_r, kf_cut_n, kf_cut_e, kf_cut_r, mkTm, VCops, VCalt, istep, act, gd, applyE, wrapD, Opd.ev, get_mk, set_mk, set_mk0, tget16, tset16, tget_0, tset_0, tget_1, tset_1, tget_2, tset_2, tget_3, tset_3, tget_4, tset_4, tget_5, tset_5, tget_6, tset_6, tget_7, tset_7, tget_8, tset_8, tget_9, tset_9, tget_10, tset_10, tget_11, tset_11, tget_12, tset_12, tget_13, tset_13, tget_14, tset_14, tget_15, tset_15, D.un, D.gu, gus, IOp.opds, binD, fnPost, getRes, IRes.get, oneRes, D.out, outL, D.clos, closL, D.norow, norowL, D.lv, lvL, D.scal, scalL, D.cells, D.cell, D.cell', St.lk, obPut, obDel, List.lookup, cut, pickD, splice, fillParts, fillRows, elem_cons, newsOf, D.pl, D.forget, forgetL, Ob.forget, forgetO, eqCells, sg, leD, leDL, leOb, apartK, St.le, D.keys, keysL, D.rows, rowsL, obKeys, addKeys, reach, pos, D.ren, renL, Ob.ren, inM, outM, inObs, outObs, goneK, apartN, okNames, D.frz, frzL, Ob.frz, frzO, St.frz, forgetLs, dropObs, putObs, hcall, freeOf, keeps, baseN, shD, isShift, shMax, k_bad, ir_reredoskeep_seen, h1, hx_Sees, pre_Sees, F_Sees, hs, seen]
  | true => simp (implicitDefEqProofs := false) [k_seq, k_block, k_skip, k_reg, k_alt, k_cond, k_exit, k_ret, kf_nil, kf_seq_n, kf_seq_e, kf_seq_r, kf_blk_n, kf_blk_e, kf_blk_r, kf_lp_n, kf_lp_e, kf_lp_r, kf_cut_n, kf_cut_e, kf_cut_r, mkTm, VCops, VCalt, istep, act, gd, applyE, wrapD, Opd.ev, get_mk, set_mk, set_mk0, tget16, tset16, tget_0, tset_0, tget_1, tset_1, tget_2, tset_2, tget_3, tset_3, tget_4, tset_4, tget_5, tset_5, tget_6, tset_6, tget_7, tset_7, tget_8, tset_8, tget_9, tset_9, tget_10, tset_10, tget_11, tset_11, tget_12, tset_12, tget_13, tset_13, tget_14, tset_14, tget_15, tset_15, D.un, D.gu, gus, IOp.opds, binD, fnPost, getRes, IRes.get, oneRes, D.out, outL, D.clos, closL, D.norow, norowL, D.lv, lvL, D.scal, scalL, D.cells, D.cell, D.cell', St.lk, obPut, obDel, List.lookup, cut, pickD, splice, fillParts, fillRows, elem_cons, newsOf, D.pl, D.forget, forgetL, Ob.forget, forgetO, eqCells, sg, leD, leDL, leOb, apartK, St.le, D.keys, keysL, D.rows, rowsL, obKeys, addKeys, reach, pos, D.ren, renL, Ob.ren, inM, outM, inObs, outObs, goneK, apartN, okNames, D.frz, frzL, Ob.frz, frzO, St.frz, forgetLs, dropObs, putObs, hcall, freeOf, keeps, baseN, shD, isShift, shMax, k_bad, ir_reredoskeep_seen, h1, hx_Sees, pre_Sees, F_Sees, hs, seen]

set_option maxRecDepth 100000 in
set_option maxHeartbeats 4000000 in
theorem v_sameActs (h1 : T.sp n_reredoskeep_sameInts = some sp_sameInts) : Verified T ir_reredoskeep_sameActs sp_sameActs := by
  refine Verified.mk ?_
  rintro ds ⟨a, b, rfl, ka, kb, ha, hb⟩
  simp only [actsD, F_sameActs]
  simp (implicitDefEqProofs := false) [k_seq, k_block, k_skip, k_reg, k_alt, k_cond, k_exit, k_ret, kf_nil, kf_seq_n, kf_seq_e, kf_seq_r, kf_blk_n, kf_blk_e, kf_blk_r, kf_lp_n, kf_lp_e, kf_lp_r, kf_cut_n, kf_cut_e, kf_cut_r, mkTm, VCops, VCalt, istep, act, gd, applyE, wrapD, Opd.ev, get_mk, set_mk, set_mk0, tget16, tset16, tget_0, tset_0, tget_1, tset_1, tget_2, tset_2, tget_3, tset_3, tget_4, tset_4, tget_5, tset_5, tget_6, tset_6, tget_7, tset_7, tget_8, tset_8, tget_9, tset_9, tget_10, tset_10, tget_11, tset_11, tget_12, tset_12, tget_13, tset_13, tget_14, tset_14, tget_15, tset_15, D.un, D.gu, gus, IOp.opds, binD, fnPost, getRes, IRes.get, oneRes, D.out, outL, D.clos, closL, D.norow, norowL, D.lv, lvL, D.scal, scalL, D.cells, D.cell, D.cell', St.lk, obPut, obDel, List.lookup, cut, pickD, splice, fillParts, fillRows, elem_cons, newsOf, D.pl, D.forget, forgetL, Ob.forget, forgetO, eqCells, sg, leD, leDL, leOb, apartK, St.le, D.keys, keysL, D.rows, rowsL, obKeys, addKeys, reach, pos, D.ren, renL, Ob.ren, inM, outM, inObs, outObs, goneK, apartN, okNames, D.frz, frzL, Ob.frz, frzO, St.frz, forgetLs, dropObs, putObs, hcall, freeOf, keeps, baseN, shD, isShift, shMax, k_bad, ir_reredoskeep_sameActs]
  refine ⟨fun q e => q (by subst e; rfl), fun q => ?_⟩
  have q : a.length = b.length := by omega
  refine k_loop (ι := {i : Nat // i ≤ a.length ∧ a.take i = b.take i}) (fun x => ⟨mkTm 82 0 [(0, .fz 12 (a.map actC)), (1, .fz 12 (b.map actC)), (5, .int .i64 x.1)], []⟩)
    (fun x => a.length - x.1) [] ⟨0, by simp⟩ (by simp [k_seq, k_block, k_skip, k_reg, k_alt, k_cond, k_exit, k_ret, kf_nil, kf_seq_n, kf_seq_e, kf_seq_r, kf_blk_n, kf_blk_e, kf_blk_r, kf_lp_n, kf_lp_e, kf_lp_r, kf_cut_n, kf_cut_e, kf_cut_r, mkTm, VCops, VCalt, istep, act, gd, applyE, wrapD, Opd.ev, get_mk, set_mk, set_mk0, tget16, tset16, tget_0, tset_0, tget_1, tset_1, tget_2, tset_2, tget_3, tset_3, tget_4, tset_4, tget_5, tset_5, tget_6, tset_6, tget_7, tset_7, tget_8, tset_8, tget_9, tset_9, tget_10, tset_10, tget_11, tset_11, tget_12, tset_12, tget_13, tset_13, tget_14, tset_14, tget_15, tset_15, D.un, D.gu, gus, IOp.opds, binD, fnPost, getRes, IRes.get, oneRes, D.out, outL, D.clos, closL, D.norow, norowL, D.lv, lvL, D.scal, scalL, D.cells, D.cell, D.cell', St.lk, obPut, obDel, List.lookup, cut, pickD, splice, fillParts, fillRows, elem_cons, newsOf, D.pl, D.forget, forgetL, Ob.forget, forgetO, eqCells, sg, leD, leDL, leOb, apartK, St.le, D.keys, keysL, D.rows, rowsL, obKeys, addKeys, reach, pos, D.ren, renL, Ob.ren, inM, outM, inObs, outObs, goneK, apartN, okNames, D.frz, frzL, Ob.frz, frzO, St.frz, forgetLs, dropObs, putObs, hcall, freeOf, keeps, baseN, shD, isShift, shMax, k_bad]) ?_
  rintro ⟨i, hi, he⟩ P hP
  rcases Nat.lt_or_ge i a.length with h | h
  · have h' : i < b.length := by omega
    have hi1 : (i : Int) < a.length := by omega
    have hi2 : (i : Int) < b.length := by omega
    have e1 := elem_map actC a i h
    have e2 := elem_map actC b i h'
    have t1 : a.take (i + 1) = a.take i ++ [a[i]] := (List.take_append_getElem h).symm
    have t2 : b.take (i + 1) = b.take i ++ [b[i]] := (List.take_append_getElem h').symm
    have oa := ka _ (List.getElem_mem h)
    have ob := kb _ (List.getElem_mem h')
    have hne : a[i] ≠ b[i] → ¬ a = b := fun n e => n (by subst e; rfl)
    generalize a[i] = x at e1 t1 hne oa
    generalize b[i] = y at e2 t2 hne ob
    obtain ⟨x1, x2, x3, x4, x5, x6, ⟨u1, u2, u3, u4, u5⟩, x7⟩ := x
    obtain ⟨y1, y2, y3, y4, y5, y6, ⟨w1, w2, w3, w4, w5⟩, y7⟩ := y
    simp only [okAc] at oa ob
    have hps := pre_sameInts x6 y6 oa ob
    by_cases c1 : x1 = y1
    · subst c1
      by_cases c2 : x2 = y2
      · subst c2
        by_cases c3 : x3 = y3
        · subst c3
          by_cases c4 : x4 = y4
          · subst c4
            by_cases c5 : x5 = y5
            · subst c5
              by_cases c6 : u1 = w1 ∧ u2 = w2 ∧ u3 = w3 ∧ u4 = w4 ∧ u5 = w5
              · obtain ⟨rfl, rfl, rfl, rfl, rfl⟩ := c6
                by_cases c7 : x7 = y7
                · subst c7
                  by_cases c8 : x6 = y6
                  · subst c8
                    simp (implicitDefEqProofs := false) [k_seq, k_block, k_skip, k_reg, k_alt, k_cond, k_exit, k_ret, kf_nil, kf_seq_n, kf_seq_e, kf_seq_r, kf_blk_n, kf_blk_e, kf_blk_r, kf_lp_n, kf_lp_e, kf_lp_r, kf_cut_n, kf_cut_e, kf_cut_r, mkTm, VCops, VCalt, istep, act, gd, applyE, wrapD, Opd.ev, get_mk, set_mk, set_mk0, tget16, tset16, tget_0, tset_0, tget_1, tset_1, tget_2, tset_2, tget_3, tset_3, tget_4, tset_4, tget_5, tset_5, tget_6, tset_6, tget_7, tset_7, tget_8, tset_8, tget_9, tset_9, tget_10, tset_10, tget_11, tset_11, tget_12, tset_12, tget_13, tset_13, tget_14, tset_14, tget_15, tset_15, D.un, D.gu, gus, IOp.opds, binD, fnPost, getRes, IRes.get, oneRes, D.out, outL, D.clos, closL, D.norow, norowL, D.lv, lvL, D.scal, scalL, D.cells, D.cell, D.cell', St.lk, obPut, obDel, List.lookup, cut, pickD, splice, fillParts, fillRows, elem_cons, newsOf, D.pl, D.forget, forgetL, Ob.forget, forgetO, eqCells, sg, leD, leDL, leOb, apartK, St.le, D.keys, keysL, D.rows, rowsL, obKeys, addKeys, reach, pos, D.ren, renL, Ob.ren, inM, outM, inObs, outObs, goneK, apartN, okNames, D.frz, frzL, Ob.frz, frzO, St.frz, forgetLs, dropObs, putObs, hcall, freeOf, keeps, baseN, shD, isShift, shMax, k_bad, ir_reredoskeep_sameActs_b0, hi1, hi2, h, h', e1, e2, actC, h1, hx_sameInts, hps, F_sameInts]
                    exact ⟨by simp only [inR]; omega, hP _ [] ⟨i + 1, by omega, by rw [t1, t2, he]⟩ (by simp [k_seq, k_block, k_skip, k_reg, k_alt, k_cond, k_exit, k_ret, kf_nil, kf_seq_n, kf_seq_e, kf_seq_r, kf_blk_n, kf_blk_e, kf_blk_r, kf_lp_n, kf_lp_e, kf_lp_r, kf_cut_n, kf_cut_e, kf_cut_r, mkTm, VCops, VCalt, istep, act, gd, applyE, wrapD, Opd.ev, get_mk, set_mk, set_mk0, tget16, tset16, tget_0, tset_0, tget_1, tset_1, tget_2, tset_2, tget_3, tset_3, tget_4, tset_4, tget_5, tset_5, tget_6, tset_6, tget_7, tset_7, tget_8, tset_8, tget_9, tset_9, tget_10, tset_10, tget_11, tset_11, tget_12, tset_12, tget_13, tset_13, tget_14, tset_14, tget_15, tset_15, D.un, D.gu, gus, IOp.opds, binD, fnPost, getRes, IRes.get, oneRes, D.out, outL, D.clos, closL, D.norow, norowL, D.lv, lvL, D.scal, scalL, D.cells, D.cell, D.cell', St.lk, obPut, obDel, List.lookup, cut, pickD, splice, fillParts, fillRows, elem_cons, newsOf, D.pl, D.forget, forgetL, Ob.forget, forgetO, eqCells, sg, leD, leDL, leOb, apartK, St.le, D.keys, keysL, D.rows, rowsL, obKeys, addKeys, reach, pos, D.ren, renL, Ob.ren, inM, outM, inObs, outObs, goneK, apartN, okNames, D.frz, frzL, Ob.frz, frzO, St.frz, forgetLs, dropObs, putObs, hcall, freeOf, keeps, baseN, shD, isShift, shMax, k_bad]) (by simp; omega)⟩
                  · simp (implicitDefEqProofs := false) [k_seq, k_block, k_skip, k_reg, k_alt, k_cond, k_exit, k_ret, kf_nil, kf_seq_n, kf_seq_e, kf_seq_r, kf_blk_n, kf_blk_e, kf_blk_r, kf_lp_n, kf_lp_e, kf_lp_r, kf_cut_n, kf_cut_e, kf_cut_r, mkTm, VCops, VCalt, istep, act, gd, applyE, wrapD, Opd.ev, get_mk, set_mk, set_mk0, tget16, tset16, tget_0, tset_0, tget_1, tset_1, tget_2, tset_2, tget_3, tset_3, tget_4, tset_4, tget_5, tset_5, tget_6, tset_6, tget_7, tset_7, tget_8, tset_8, tget_9, tset_9, tget_10, tset_10, tget_11, tset_11, tget_12, tset_12, tget_13, tset_13, tget_14, tset_14, tget_15, tset_15, D.un, D.gu, gus, IOp.opds, binD, fnPost, getRes, IRes.get, oneRes, D.out, outL, D.clos, closL, D.norow, norowL, D.lv, lvL, D.scal, scalL, D.cells, D.cell, D.cell', St.lk, obPut, obDel, List.lookup, cut, pickD, splice, fillParts, fillRows, elem_cons, newsOf, D.pl, D.forget, forgetL, Ob.forget, forgetO, eqCells, sg, leD, leDL, leOb, apartK, St.le, D.keys, keysL, D.rows, rowsL, obKeys, addKeys, reach, pos, D.ren, renL, Ob.ren, inM, outM, inObs, outObs, goneK, apartN, okNames, D.frz, frzL, Ob.frz, frzO, St.frz, forgetLs, dropObs, putObs, hcall, freeOf, keeps, baseN, shD, isShift, shMax, k_bad, ir_reredoskeep_sameActs_b0, hi1, hi2, h, h', e1, e2, actC, h1, hx_sameInts, hps, F_sameInts, c8]
                    exact hne (by simp [c8])
                · simp (implicitDefEqProofs := false) [k_seq, k_block, k_skip, k_reg, k_alt, k_cond, k_exit, k_ret, kf_nil, kf_seq_n, kf_seq_e, kf_seq_r, kf_blk_n, kf_blk_e, kf_blk_r, kf_lp_n, kf_lp_e, kf_lp_r, kf_cut_n, kf_cut_e, kf_cut_r, mkTm, VCops, VCalt, istep, act, gd, applyE, wrapD, Opd.ev, get_mk, set_mk, set_mk0, tget16, tset16, tget_0, tset_0, tget_1, tset_1, tget_2, tset_2, tget_3, tset_3, tget_4, tset_4, tget_5, tset_5, tget_6, tset_6, tget_7, tset_7, tget_8, tset_8, tget_9, tset_9, tget_10, tset_10, tget_11, tset_11, tget_12, tset_12, tget_13, tset_13, tget_14, tset_14, tget_15, tset_15, D.un, D.gu, gus, IOp.opds, binD, fnPost, getRes, IRes.get, oneRes, D.out, outL, D.clos, closL, D.norow, norowL, D.lv, lvL, D.scal, scalL, D.cells, D.cell, D.cell', St.lk, obPut, obDel, List.lookup, cut, pickD, splice, fillParts, fillRows, elem_cons, newsOf, D.pl, D.forget, forgetL, Ob.forget, forgetO, eqCells, sg, leD, leDL, leOb, apartK, St.le, D.keys, keysL, D.rows, rowsL, obKeys, addKeys, reach, pos, D.ren, renL, Ob.ren, inM, outM, inObs, outObs, goneK, apartN, okNames, D.frz, frzL, Ob.frz, frzO, St.frz, forgetLs, dropObs, putObs, hcall, freeOf, keeps, baseN, shD, isShift, shMax, k_bad, ir_reredoskeep_sameActs_b0, hi1, hi2, h, h', e1, e2, actC, h1, hx_sameInts, hps, F_sameInts, c7]
                  exact hne (by simp [c7])
              · have c6' : (u1 == w1 && (u2 == w2 && (u3 == w3 && (u4 == w4 && u5 == w5)))) = false := by
                  rw [Bool.eq_false_iff]; simpa using c6
                have c6'' : (u1 == w1 && (u2 == w2 && (u3 == w3 && (u4 == w4 && (u5 == w5 && true))))) = false := by
                  rw [Bool.and_true]; exact c6'
                simp (implicitDefEqProofs := false) [k_seq, k_block, k_skip, k_reg, k_alt, k_cond, k_exit, k_ret, kf_nil, kf_seq_n, kf_seq_e, kf_seq_r, kf_blk_n, kf_blk_e, kf_blk_r, kf_lp_n, kf_lp_e, kf_lp_r, kf_cut_n, kf_cut_e, kf_cut_r, mkTm, VCops, VCalt, istep, act, gd, applyE, wrapD, Opd.ev, get_mk, set_mk, set_mk0, tget16, tset16, tget_0, tset_0, tget_1, tset_1, tget_2, tset_2, tget_3, tset_3, tget_4, tset_4, tget_5, tset_5, tget_6, tset_6, tget_7, tset_7, tget_8, tset_8, tget_9, tset_9, tget_10, tset_10, tget_11, tset_11, tget_12, tset_12, tget_13, tset_13, tget_14, tset_14, tget_15, tset_15, D.un, D.gu, gus, IOp.opds, binD, fnPost, getRes, IRes.get, oneRes, D.out, outL, D.clos, closL, D.norow, norowL, D.lv, lvL, D.scal, scalL, D.cells, D.cell, D.cell', St.lk, obPut, obDel, List.lookup, cut, pickD, splice, fillParts, fillRows, elem_cons, newsOf, D.pl, D.forget, forgetL, Ob.forget, forgetO, eqCells, sg, leD, leDL, leOb, apartK, St.le, D.keys, keysL, D.rows, rowsL, obKeys, addKeys, reach, pos, D.ren, renL, Ob.ren, inM, outM, inObs, outObs, goneK, apartN, okNames, D.frz, frzL, Ob.frz, frzO, St.frz, forgetLs, dropObs, putObs, hcall, freeOf, keeps, baseN, shD, isShift, shMax, k_bad, ir_reredoskeep_sameActs_b0, hi1, hi2, h, h', e1, e2, actC, h1, hx_sameInts, hps, F_sameInts, c6', c6'']
                refine hne fun ee => c6 ?_
                injection ee with _ _ _ _ _ _ ee
                injection ee with z1 z2 z3 z4 z5
                exact ⟨z1, z2, z3, z4, z5⟩
            · simp (implicitDefEqProofs := false) [k_seq, k_block, k_skip, k_reg, k_alt, k_cond, k_exit, k_ret, kf_nil, kf_seq_n, kf_seq_e, kf_seq_r, kf_blk_n, kf_blk_e, kf_blk_r, kf_lp_n, kf_lp_e, kf_lp_r, kf_cut_n, kf_cut_e, kf_cut_r, mkTm, VCops, VCalt, istep, act, gd, applyE, wrapD, Opd.ev, get_mk, set_mk, set_mk0, tget16, tset16, tget_0, tset_0, tget_1, tset_1, tget_2, tset_2, tget_3, tset_3, tget_4, tset_4, tget_5, tset_5, tget_6, tset_6, tget_7, tset_7, tget_8, tset_8, tget_9, tset_9, tget_10, tset_10, tget_11, tset_11, tget_12, tset_12, tget_13, tset_13, tget_14, tset_14, tget_15, tset_15, D.un, D.gu, gus, IOp.opds, binD, fnPost, getRes, IRes.get, oneRes, D.out, outL, D.clos, closL, D.norow, norowL, D.lv, lvL, D.scal, scalL, D.cells, D.cell, D.cell', St.lk, obPut, obDel, List.lookup, cut, pickD, splice, fillParts, fillRows, elem_cons, newsOf, D.pl, D.forget, forgetL, Ob.forget, forgetO, eqCells, sg, leD, leDL, leOb, apartK, St.le, D.keys, keysL, D.rows, rowsL, obKeys, addKeys, reach, pos, D.ren, renL, Ob.ren, inM, outM, inObs, outObs, goneK, apartN, okNames, D.frz, frzL, Ob.frz, frzO, St.frz, forgetLs, dropObs, putObs, hcall, freeOf, keeps, baseN, shD, isShift, shMax, k_bad, ir_reredoskeep_sameActs_b0, hi1, hi2, h, h', e1, e2, actC, h1, hx_sameInts, hps, F_sameInts, c5]
              exact hne (by simp [c5])
          · simp (implicitDefEqProofs := false) [k_seq, k_block, k_skip, k_reg, k_alt, k_cond, k_exit, k_ret, kf_nil, kf_seq_n, kf_seq_e, kf_seq_r, kf_blk_n, kf_blk_e, kf_blk_r, kf_lp_n, kf_lp_e, kf_lp_r, kf_cut_n, kf_cut_e, kf_cut_r, mkTm, VCops, VCalt, istep, act, gd, applyE, wrapD, Opd.ev, get_mk, set_mk, set_mk0, tget16, tset16, tget_0, tset_0, tget_1, tset_1, tget_2, tset_2, tget_3, tset_3, tget_4, tset_4, tget_5, tset_5, tget_6, tset_6, tget_7, tset_7, tget_8, tset_8, tget_9, tset_9, tget_10, tset_10, tget_11, tset_11, tget_12, tset_12, tget_13, tset_13, tget_14, tset_14, tget_15, tset_15, D.un, D.gu, gus, IOp.opds, binD, fnPost, getRes, IRes.get, oneRes, D.out, outL, D.clos, closL, D.norow, norowL, D.lv, lvL, D.scal, scalL, D.cells, D.cell, D.cell', St.lk, obPut, obDel, List.lookup, cut, pickD, splice, fillParts, fillRows, elem_cons, newsOf, D.pl, D.forget, forgetL, Ob.forget, forgetO, eqCells, sg, leD, leDL, leOb, apartK, St.le, D.keys, keysL, D.rows, rowsL, obKeys, addKeys, reach, pos, D.ren, renL, Ob.ren, inM, outM, inObs, outObs, goneK, apartN, okNames, D.frz, frzL, Ob.frz, frzO, St.frz, forgetLs, dropObs, putObs, hcall, freeOf, keeps, baseN, shD, isShift, shMax, k_bad, ir_reredoskeep_sameActs_b0, hi1, hi2, h, h', e1, e2, actC, h1, hx_sameInts, hps, F_sameInts, c4]
            exact hne (by simp [c4])
        · simp (implicitDefEqProofs := false) [k_seq, k_block, k_skip, k_reg, k_alt, k_cond, k_exit, k_ret, kf_nil, kf_seq_n, kf_seq_e, kf_seq_r, kf_blk_n, kf_blk_e, kf_blk_r, kf_lp_n, kf_lp_e, kf_lp_r, kf_cut_n, kf_cut_e, kf_cut_r, mkTm, VCops, VCalt, istep, act, gd, applyE, wrapD, Opd.ev, get_mk, set_mk, set_mk0, tget16, tset16, tget_0, tset_0, tget_1, tset_1, tget_2, tset_2, tget_3, tset_3, tget_4, tset_4, tget_5, tset_5, tget_6, tset_6, tget_7, tset_7, tget_8, tset_8, tget_9, tset_9, tget_10, tset_10, tget_11, tset_11, tget_12, tset_12, tget_13, tset_13, tget_14, tset_14, tget_15, tset_15, D.un, D.gu, gus, IOp.opds, binD, fnPost, getRes, IRes.get, oneRes, D.out, outL, D.clos, closL, D.norow, norowL, D.lv, lvL, D.scal, scalL, D.cells, D.cell, D.cell', St.lk, obPut, obDel, List.lookup, cut, pickD, splice, fillParts, fillRows, elem_cons, newsOf, D.pl, D.forget, forgetL, Ob.forget, forgetO, eqCells, sg, leD, leDL, leOb, apartK, St.le, D.keys, keysL, D.rows, rowsL, obKeys, addKeys, reach, pos, D.ren, renL, Ob.ren, inM, outM, inObs, outObs, goneK, apartN, okNames, D.frz, frzL, Ob.frz, frzO, St.frz, forgetLs, dropObs, putObs, hcall, freeOf, keeps, baseN, shD, isShift, shMax, k_bad, ir_reredoskeep_sameActs_b0, hi1, hi2, h, h', e1, e2, actC, h1, hx_sameInts, hps, F_sameInts, c3]
          exact hne (by simp [c3])
      · simp (implicitDefEqProofs := false) [k_seq, k_block, k_skip, k_reg, k_alt, k_cond, k_exit, k_ret, kf_nil, kf_seq_n, kf_seq_e, kf_seq_r, kf_blk_n, kf_blk_e, kf_blk_r, kf_lp_n, kf_lp_e, kf_lp_r, kf_cut_n, kf_cut_e, kf_cut_r, mkTm, VCops, VCalt, istep, act, gd, applyE, wrapD, Opd.ev, get_mk, set_mk, set_mk0, tget16, tset16, tget_0, tset_0, tget_1, tset_1, tget_2, tset_2, tget_3, tset_3, tget_4, tset_4, tget_5, tset_5, tget_6, tset_6, tget_7, tset_7, tget_8, tset_8, tget_9, tset_9, tget_10, tset_10, tget_11, tset_11, tget_12, tset_12, tget_13, tset_13, tget_14, tset_14, tget_15, tset_15, D.un, D.gu, gus, IOp.opds, binD, fnPost, getRes, IRes.get, oneRes, D.out, outL, D.clos, closL, D.norow, norowL, D.lv, lvL, D.scal, scalL, D.cells, D.cell, D.cell', St.lk, obPut, obDel, List.lookup, cut, pickD, splice, fillParts, fillRows, elem_cons, newsOf, D.pl, D.forget, forgetL, Ob.forget, forgetO, eqCells, sg, leD, leDL, leOb, apartK, St.le, D.keys, keysL, D.rows, rowsL, obKeys, addKeys, reach, pos, D.ren, renL, Ob.ren, inM, outM, inObs, outObs, goneK, apartN, okNames, D.frz, frzL, Ob.frz, frzO, St.frz, forgetLs, dropObs, putObs, hcall, freeOf, keeps, baseN, shD, isShift, shMax, k_bad, ir_reredoskeep_sameActs_b0, hi1, hi2, h, h', e1, e2, actC, h1, hx_sameInts, hps, F_sameInts, c2]
        exact hne (by simp [c2])
    · simp (implicitDefEqProofs := false) [k_seq, k_block, k_skip, k_reg, k_alt, k_cond, k_exit, k_ret, kf_nil, kf_seq_n, kf_seq_e, kf_seq_r, kf_blk_n, kf_blk_e, kf_blk_r, kf_lp_n, kf_lp_e, kf_lp_r, kf_cut_n, kf_cut_e, kf_cut_r, mkTm, VCops, VCalt, istep, act, gd, applyE, wrapD, Opd.ev, get_mk, set_mk, set_mk0, tget16, tset16, tget_0, tset_0, tget_1, tset_1, tget_2, tset_2, tget_3, tset_3, tget_4, tset_4, tget_5, tset_5, tget_6, tset_6, tget_7, tset_7, tget_8, tset_8, tget_9, tset_9, tget_10, tset_10, tget_11, tset_11, tget_12, tset_12, tget_13, tset_13, tget_14, tset_14, tget_15, tset_15, D.un, D.gu, gus, IOp.opds, binD, fnPost, getRes, IRes.get, oneRes, D.out, outL, D.clos, closL, D.norow, norowL, D.lv, lvL, D.scal, scalL, D.cells, D.cell, D.cell', St.lk, obPut, obDel, List.lookup, cut, pickD, splice, fillParts, fillRows, elem_cons, newsOf, D.pl, D.forget, forgetL, Ob.forget, forgetO, eqCells, sg, leD, leDL, leOb, apartK, St.le, D.keys, keysL, D.rows, rowsL, obKeys, addKeys, reach, pos, D.ren, renL, Ob.ren, inM, outM, inObs, outObs, goneK, apartN, okNames, D.frz, frzL, Ob.frz, frzO, St.frz, forgetLs, dropObs, putObs, hcall, freeOf, keeps, baseN, shD, isShift, shMax, k_bad, ir_reredoskeep_sameActs_b0, hi1, hi2, h, h', e1, e2, actC, h1, hx_sameInts, hps, F_sameInts, c1]
      exact hne (by simp [c1])
  · have hi1 : ¬ (i : Int) < a.length := by omega
    simp (implicitDefEqProofs := false) [k_seq, k_block, k_skip, k_reg, k_alt, k_cond, k_exit, k_ret, kf_nil, kf_seq_n, kf_seq_e, kf_seq_r, kf_blk_n, kf_blk_e, kf_blk_r, kf_lp_n, kf_lp_e, kf_lp_r, kf_cut_n, kf_cut_e, kf_cut_r, mkTm, VCops, VCalt, istep, act, gd, applyE, wrapD, Opd.ev, get_mk, set_mk, set_mk0, tget16, tset16, tget_0, tset_0, tget_1, tset_1, tget_2, tset_2, tget_3, tset_3, tget_4, tset_4, tget_5, tset_5, tget_6, tset_6, tget_7, tset_7, tget_8, tset_8, tget_9, tset_9, tget_10, tset_10, tget_11, tset_11, tget_12, tset_12, tget_13, tset_13, tget_14, tset_14, tget_15, tset_15, D.un, D.gu, gus, IOp.opds, binD, fnPost, getRes, IRes.get, oneRes, D.out, outL, D.clos, closL, D.norow, norowL, D.lv, lvL, D.scal, scalL, D.cells, D.cell, D.cell', St.lk, obPut, obDel, List.lookup, cut, pickD, splice, fillParts, fillRows, elem_cons, newsOf, D.pl, D.forget, forgetL, Ob.forget, forgetO, eqCells, sg, leD, leDL, leOb, apartK, St.le, D.keys, keysL, D.rows, rowsL, obKeys, addKeys, reach, pos, D.ren, renL, Ob.ren, inM, outM, inObs, outObs, goneK, apartN, okNames, D.frz, frzL, Ob.frz, frzO, St.frz, forgetLs, dropObs, putObs, hcall, freeOf, keeps, baseN, shD, isShift, shMax, k_bad, ir_reredoskeep_sameActs_b0, ir_reredoskeep_sameActs_r1, hi1]
    rw [List.take_of_length_le h, List.take_of_length_le (by omega)] at he
    exact he
end
end Go.Proofs.Ytccoiplnonfkgaa
