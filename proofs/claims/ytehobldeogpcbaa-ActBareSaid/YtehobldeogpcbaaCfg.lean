/-
  Config, Check and what they call compute what the plain functions beside them say. Conditions: those of each specification's 'pre'.
-/
import Derived.Test.YtehobldeogpcbaaPk
set_option linter.unusedVariables false
set_option linter.unusedSimpArgs false
namespace Go.Proofs.Ytehobldeogpcbaa
open Go Go.Vcg

/-! ### Plain functions -/
def lbc (p : Int × Int) : List D := [.int .i64 p.1, .int .i64 p.2]
def cfgD (s : Int) (ls : List (Int × Int)) (p : Int) : D := .agg [.int .i64 s, .fz 2 (ls.map lbc), .int .i64 p]

def one (l : Int × Int) : Bool := decide (0 ≤ l.1) && decide (l.1 ≤ 9) && decide (0 ≤ l.2) && decide (l.2 ≤ 15)
/-- The labels behind those that were seen. -/
def chkL : List (Int × Int) → List (Int × Int) → Int
  | _, [] => 0
  | pre, l :: r => if one l = false then 2 else if l ∈ pre then 7 else chkL (pre ++ [l]) r
def check (s : Int) (ls : List (Int × Int)) (p : Int) : Int :=
  if s < 1 ∨ 4 < s then 2 else if ls.length < 1 ∨ 6 < ls.length then 1 else
  if chkL [] ls = 0 then (if p < 1 ∨ 1048576 < p then 2 else 0) else chkL [] ls

def sp_one : Sp := { pre := fun ds => ∃ a, ds = [lb a], F := fun | [x] => .bool (one (lbOf x)) | _ => .any }
def lbL (e : List D) : Int × Int := lbOf (.agg e)
theorem lbL_lbc : lbL ∘ lbc = id := rfl
def cfgOf : D → Int × List (Int × Int) × Int
  | .agg [.int _ s, .fz _ es, .int _ p] => (s, es.map lbL, p)
  | _ => (0, [], 0)
def isLb : List D → Bool
  | [.int .i64 _, .int .i64 _] => true
  | _ => false
theorem isLb_lbc : isLb ∘ lbc = fun _ => true := rfl
def isCfg : D → Bool
  | .agg [.int .i64 s, .fz 2 es, .int .i64 p] => es.all isLb
  | _ => false
theorem isLb_map : ∀ {es : List (List D)}, es.all isLb = true → es = (es.map lbL).map lbc
  | [], _ => rfl
  | e :: es, h => by
    simp only [List.all_cons, Bool.and_eq_true] at h
    simp only [List.map_cons]
    rw [← isLb_map h.2]
    have he := h.1
    unfold isLb at he
    split at he
    · rfl
    · cases he
theorem isCfg_cfgD {x : D} (h : isCfg x = true) : ∃ s ls p, x = cfgD s ls p := by
  unfold isCfg at h
  split at h
  · rename_i s es p
    exact ⟨s, es.map lbL, p, by rw [cfgD, ← isLb_map h]⟩
  · cases h
def sp_Check : Sp := { pre := fun ds => ∃ x, ds = [x] ∧ isCfg x = true, F := fun | [x] => .int .i64 (check (cfgOf x).1 (cfgOf x).2.1 (cfgOf x).2.2) | _ => .any }

theorem cfgOf_cfgD (s : Int) (ls : List (Int × Int)) (p : Int) : cfgOf (cfgD s ls p) = (s, ls, p) := by
  simp [cfgOf, cfgD, lbL_lbc]

def ic (n : Int) : List D := [.int .i64 n]
def intsD (ns : List Int) : D := .fz 1 (ns.map ic)
def intOf : List D → Int
  | [.int _ n] => n
  | _ => 0
theorem intOf_ic : intOf ∘ ic = id := rfl
def intsOf : D → List Int
  | .fz _ es => es.map intOf
  | _ => []
theorem intsOf_intsD (ns : List Int) : intsOf (intsD ns) = ns := by
  simp [intsOf, intsD, intOf_ic]

/-- The labels of raw numbers, each once, at most four. -/
def cfgL : List Int → List (Int × Int) → List (Int × Int)
  | [], acc => acc
  | n :: r, acc => if acc.length < 4 then cfgL r (if lab n ∈ acc then acc else acc ++ [lab n]) else acc
def cfgLs (ns : List Int) : List (Int × Int) := if cfgL ns [] = [] then [(0, 0)] else cfgL ns []

/-- A slice of ints that may be. -/
def okInts (ns : List Int) : Prop := (∀ n ∈ ns, inR .i64 n) ∧ ns.length ≤ 9223372036854775807

def sp_Config : Sp := { pre := fun ds => ∃ s ns p, ds = [.int .i64 s, intsD ns, .int .i64 p] ∧ inR .i64 s ∧ okInts ns ∧ inR .i64 p, F := fun | [.int _ s, x, .int _ p] => cfgD (1 + pk s 3) (cfgLs (intsOf x)) (1 + pk p 4) | _ => .any }

theorem mem_snoc_dec (A : List (Int × Int)) (x l : Int × Int) : (decide (l ∈ A) || (x.1 == l.1 && x.2 == l.2)) = decide (l ∈ A ++ [x]) := by
  have e : (x.1 == l.1 && x.2 == l.2) = decide (l = x) := by
    rw [Bool.eq_iff_iff]
    simp only [Bool.and_eq_true, beq_iff_eq, decide_eq_true_eq, Prod.ext_iff]
    exact ⟨fun h => ⟨h.1.symm, h.2.symm⟩, fun h => ⟨h.1.symm, h.2.symm⟩⟩
  rw [e]
  by_cases q : l ∈ A <;> simp [q]

section
variable {T : Tb}
theorem v_one : Verified T ir_label_one sp_one := by
  refine Verified.mk ?_
  rintro ds ⟨⟨a, b⟩, rfl⟩
  simp [k_seq, k_block, k_skip, k_reg, k_alt, k_cond, k_exit, k_ret, kf_nil, kf_seq_n, kf_seq_e, kf_seq_r, kf_blk_n, kf_blk_e, kf_blk_r, kf_lp_n, kf_lp_e, kf_lp_r, kf_cut_n, kf_cut_e, kf_cut_r, mkTm, VCops, VCalt, istep, act, gd, applyE, wrapD, Opd.ev, get_mk, set_mk, set_mk0, tget16, tset16, tget_0, tset_0, tget_1, tset_1, tget_2, tset_2, tget_3, tset_3, tget_4, tset_4, tget_5, tset_5, tget_6, tset_6, tget_7, tset_7, tget_8, tset_8, tget_9, tset_9, tget_10, tset_10, tget_11, tset_11, tget_12, tset_12, tget_13, tset_13, tget_14, tset_14, tget_15, tset_15, D.un, D.gu, gus, IOp.opds, binD, fnPost, getRes, IRes.get, oneRes, D.out, outL, D.clos, closL, D.norow, norowL, D.lv, lvL, D.scal, scalL, D.cells, D.cell, D.cell', St.lk, obPut, obDel, List.lookup, cut, pickD, splice, fillParts, fillRows, elem_cons, newsOf, D.pl, D.forget, forgetL, Ob.forget, forgetO, eqCells, sg, leD, leDL, leOb, apartK, St.le, D.keys, keysL, D.rows, rowsL, obKeys, addKeys, reach, pos, D.ren, renL, Ob.ren, inM, outM, inObs, outObs, goneK, apartN, okNames_eq, okNms, obNms, namesOK_nil, namesOK_cons, freeOK_nil, freeOK_cons, D.frz, frzL, Ob.frz, frzO, St.frz, forgetLs, dropObs, putObs, hcall, freeOf, keeps, baseN, shD, isShift, shMax, k_bad, VCopsG, frz_nil, actx, actc, cnum, St.frzT, St.opnT, St.clsT, D.opn, opnL, Ob.opn, opnO, ir_label_one, sp_one, lb, lbOf, one]
  rfl

theorem v_Check (h1 : T.sp n_label_one = some sp_one) : Verified T ir_label_Check sp_Check := by
  refine Verified.mk ?_
  rintro ds ⟨x, rfl, hx⟩
  obtain ⟨s, ls, p, rfl⟩ := isCfg_cfgD hx
  simp only [sp_Check, cfgOf_cfgD]
  simp [k_seq, k_block, k_skip, k_reg, k_alt, k_cond, k_exit, k_ret, kf_nil, kf_seq_n, kf_seq_e, kf_seq_r, kf_blk_n, kf_blk_e, kf_blk_r, kf_lp_n, kf_lp_e, kf_lp_r, kf_cut_n, kf_cut_e, kf_cut_r, mkTm, VCops, VCalt, istep, act, gd, applyE, wrapD, Opd.ev, get_mk, set_mk, set_mk0, tget16, tset16, tget_0, tset_0, tget_1, tset_1, tget_2, tset_2, tget_3, tset_3, tget_4, tset_4, tget_5, tset_5, tget_6, tset_6, tget_7, tset_7, tget_8, tset_8, tget_9, tset_9, tget_10, tset_10, tget_11, tset_11, tget_12, tset_12, tget_13, tset_13, tget_14, tset_14, tget_15, tset_15, D.un, D.gu, gus, IOp.opds, binD, fnPost, getRes, IRes.get, oneRes, D.out, outL, D.clos, closL, D.norow, norowL, D.lv, lvL, D.scal, scalL, D.cells, D.cell, D.cell', St.lk, obPut, obDel, List.lookup, cut, pickD, splice, fillParts, fillRows, elem_cons, newsOf, D.pl, D.forget, forgetL, Ob.forget, forgetO, eqCells, sg, leD, leDL, leOb, apartK, St.le, D.keys, keysL, D.rows, rowsL, obKeys, addKeys, reach, pos, D.ren, renL, Ob.ren, inM, outM, inObs, outObs, goneK, apartN, okNames_eq, okNms, obNms, namesOK_nil, namesOK_cons, freeOK_nil, freeOK_cons, D.frz, frzL, Ob.frz, frzO, St.frz, forgetLs, dropObs, putObs, hcall, freeOf, keeps, baseN, shD, isShift, shMax, k_bad, VCopsG, frz_nil, actx, actc, cnum, St.frzT, St.opnT, St.clsT, D.opn, opnL, Ob.opn, opnO, ir_label_Check, h1, cfgD]
  refine ⟨fun h => by simp [check, h], fun h1' h2' => ⟨fun h => ?_, fun h3 h4 => ?_⟩⟩
  · rw [check, if_neg (by omega), if_pos (by omega)]
  refine k_loop (ι := {i : Nat // i ≤ ls.length ∧ chkL (ls.take i) (ls.drop i) = chkL [] ls}) (fun x => ⟨mkTm 58 0 [(1, .own 1 0), (26, .fz 2 (ls.map lbc)), (27, .int .i64 ls.length), (28, .int .i64 x.1)], [(1, .box [.int .i64 s, .fz 2 (ls.map lbc), .int .i64 p])]⟩)
    (fun x => ls.length - x.1) [] ⟨0, by simp⟩ (by simp [k_seq, k_block, k_skip, k_reg, k_alt, k_cond, k_exit, k_ret, kf_nil, kf_seq_n, kf_seq_e, kf_seq_r, kf_blk_n, kf_blk_e, kf_blk_r, kf_lp_n, kf_lp_e, kf_lp_r, kf_cut_n, kf_cut_e, kf_cut_r, mkTm, VCops, VCalt, istep, act, gd, applyE, wrapD, Opd.ev, get_mk, set_mk, set_mk0, tget16, tset16, tget_0, tset_0, tget_1, tset_1, tget_2, tset_2, tget_3, tset_3, tget_4, tset_4, tget_5, tset_5, tget_6, tset_6, tget_7, tset_7, tget_8, tset_8, tget_9, tset_9, tget_10, tset_10, tget_11, tset_11, tget_12, tset_12, tget_13, tset_13, tget_14, tset_14, tget_15, tset_15, D.un, D.gu, gus, IOp.opds, binD, fnPost, getRes, IRes.get, oneRes, D.out, outL, D.clos, closL, D.norow, norowL, D.lv, lvL, D.scal, scalL, D.cells, D.cell, D.cell', St.lk, obPut, obDel, List.lookup, cut, pickD, splice, fillParts, fillRows, elem_cons, newsOf, D.pl, D.forget, forgetL, Ob.forget, forgetO, eqCells, sg, leD, leDL, leOb, apartK, St.le, D.keys, keysL, D.rows, rowsL, obKeys, addKeys, reach, pos, D.ren, renL, Ob.ren, inM, outM, inObs, outObs, goneK, apartN, okNames_eq, okNms, obNms, namesOK_nil, namesOK_cons, freeOK_nil, freeOK_cons, D.frz, frzL, Ob.frz, frzO, St.frz, forgetLs, dropObs, putObs, hcall, freeOf, keeps, baseN, shD, isShift, shMax, k_bad, VCopsG, frz_nil, actx, actc, cnum, St.frzT, St.opnT, St.clsT, D.opn, opnL, Ob.opn, opnO]) ?_
  rintro ⟨i, hi, hinv⟩ P hP
  rcases Nat.lt_or_ge i ls.length with h | h
  · have hd : ls.drop i = ls[i] :: ls.drop (i + 1) := List.drop_eq_getElem_cons h
    rw [hd, chkL] at hinv
    have hch : one ls[i] = false → check s ls p = 2 := fun ho => by
      rw [if_pos ho] at hinv
      rw [check, if_neg (by omega), if_neg (by omega), if_neg (by omega), hinv]
    simp [k_seq, k_block, k_skip, k_reg, k_alt, k_cond, k_exit, k_ret, kf_nil, kf_seq_n, kf_seq_e, kf_seq_r, kf_blk_n, kf_blk_e, kf_blk_r, kf_lp_n, kf_lp_e, kf_lp_r, kf_cut_n, kf_cut_e, kf_cut_r, mkTm, VCops, VCalt, istep, act, gd, applyE, wrapD, Opd.ev, get_mk, set_mk, set_mk0, tget16, tset16, tget_0, tset_0, tget_1, tset_1, tget_2, tset_2, tget_3, tset_3, tget_4, tset_4, tget_5, tset_5, tget_6, tset_6, tget_7, tset_7, tget_8, tset_8, tget_9, tset_9, tget_10, tset_10, tget_11, tset_11, tget_12, tset_12, tget_13, tset_13, tget_14, tset_14, tget_15, tset_15, D.un, D.gu, gus, IOp.opds, binD, fnPost, getRes, IRes.get, oneRes, D.out, outL, D.clos, closL, D.norow, norowL, D.lv, lvL, D.scal, scalL, D.cells, D.cell, D.cell', St.lk, obPut, obDel, List.lookup, cut, pickD, splice, fillParts, fillRows, elem_cons, newsOf, D.pl, D.forget, forgetL, Ob.forget, forgetO, eqCells, sg, leD, leDL, leOb, apartK, St.le, D.keys, keysL, D.rows, rowsL, obKeys, addKeys, reach, pos, D.ren, renL, Ob.ren, inM, outM, inObs, outObs, goneK, apartN, okNames_eq, okNms, obNms, namesOK_nil, namesOK_cons, freeOK_nil, freeOK_cons, D.frz, frzL, Ob.frz, frzO, St.frz, forgetLs, dropObs, putObs, hcall, freeOf, keeps, baseN, shD, isShift, shMax, k_bad, VCopsG, frz_nil, actx, actc, cnum, St.frzT, St.opnT, St.clsT, D.opn, opnL, Ob.opn, opnO, ir_label_Check_b2, h, h1, elem_map, lbc, sp_one, lb, lbOf]
    refine ⟨fun ho => (hch ho).symm, fun ho => ⟨hi, ?_⟩⟩
    rw [if_neg (by simp [ho])] at hinv
    have hch7 : ls[i] ∈ ls.take i → check s ls p = 7 := fun hm => by
      rw [if_pos hm] at hinv
      rw [check, if_neg (by omega), if_neg (by omega), if_neg (by omega), hinv]
    have htk : (ls.take (i + 1)) = ls.take i ++ [ls[i]] := (List.take_append_getElem h).symm
    rw [Nat.min_eq_left hi, ← List.map_take]
    rw [← htk] at hinv
    have hpl : (ls.take i).length = i := by simp; omega
    generalize ls.take i = pre at hch7 hpl hinv htk ⊢
    generalize ls[i] = l at hch7 htk ho hinv ⊢
    refine k_loop (ι := {j : Nat // j ≤ i ∧ l ∉ pre.take j}) (fun x => ⟨mkTm 58 0 [(1, .own 1 0), (4, .own 4 0), (26, .fz 2 (ls.map lbc)), (27, .int .i64 ls.length), (28, .int .i64 i), (39, .fz 2 (pre.map lbc)), (40, .int .i64 i), (41, .int .i64 x.1)], [(1, .box [.int .i64 s, .fz 2 (ls.map lbc), .int .i64 p]), (4, .box (lbc l))]⟩)
      (fun x => i - x.1) [] ⟨0, by simp⟩ (by simp [k_seq, k_block, k_skip, k_reg, k_alt, k_cond, k_exit, k_ret, kf_nil, kf_seq_n, kf_seq_e, kf_seq_r, kf_blk_n, kf_blk_e, kf_blk_r, kf_lp_n, kf_lp_e, kf_lp_r, kf_cut_n, kf_cut_e, kf_cut_r, mkTm, VCops, VCalt, istep, act, gd, applyE, wrapD, Opd.ev, get_mk, set_mk, set_mk0, tget16, tset16, tget_0, tset_0, tget_1, tset_1, tget_2, tset_2, tget_3, tset_3, tget_4, tset_4, tget_5, tset_5, tget_6, tset_6, tget_7, tset_7, tget_8, tset_8, tget_9, tset_9, tget_10, tset_10, tget_11, tset_11, tget_12, tset_12, tget_13, tset_13, tget_14, tset_14, tget_15, tset_15, D.un, D.gu, gus, IOp.opds, binD, fnPost, getRes, IRes.get, oneRes, D.out, outL, D.clos, closL, D.norow, norowL, D.lv, lvL, D.scal, scalL, D.cells, D.cell, D.cell', St.lk, obPut, obDel, List.lookup, cut, pickD, splice, fillParts, fillRows, elem_cons, newsOf, D.pl, D.forget, forgetL, Ob.forget, forgetO, eqCells, sg, leD, leDL, leOb, apartK, St.le, D.keys, keysL, D.rows, rowsL, obKeys, addKeys, reach, pos, D.ren, renL, Ob.ren, inM, outM, inObs, outObs, goneK, apartN, okNames_eq, okNms, obNms, namesOK_nil, namesOK_cons, freeOK_nil, freeOK_cons, D.frz, frzL, Ob.frz, frzO, St.frz, forgetLs, dropObs, putObs, hcall, freeOf, keeps, baseN, shD, isShift, shMax, k_bad, VCopsG, frz_nil, actx, actc, cnum, St.frzT, St.opnT, St.clsT, D.opn, opnL, Ob.opn, opnO, lbc]) ?_
    rintro ⟨j, hj, hnm⟩ P' hP'
    rcases Nat.lt_or_ge j i with g | g
    · have hjl : j < pre.length := by omega
      have hd' : pre.take (j + 1) = pre.take j ++ [pre[j]] := (List.take_append_getElem hjl).symm
      simp [k_seq, k_block, k_skip, k_reg, k_alt, k_cond, k_exit, k_ret, kf_nil, kf_seq_n, kf_seq_e, kf_seq_r, kf_blk_n, kf_blk_e, kf_blk_r, kf_lp_n, kf_lp_e, kf_lp_r, kf_cut_n, kf_cut_e, kf_cut_r, mkTm, VCops, VCalt, istep, act, gd, applyE, wrapD, Opd.ev, get_mk, set_mk, set_mk0, tget16, tset16, tget_0, tset_0, tget_1, tset_1, tget_2, tset_2, tget_3, tset_3, tget_4, tset_4, tget_5, tset_5, tget_6, tset_6, tget_7, tset_7, tget_8, tset_8, tget_9, tset_9, tget_10, tset_10, tget_11, tset_11, tget_12, tset_12, tget_13, tset_13, tget_14, tset_14, tget_15, tset_15, D.un, D.gu, gus, IOp.opds, binD, fnPost, getRes, IRes.get, oneRes, D.out, outL, D.clos, closL, D.norow, norowL, D.lv, lvL, D.scal, scalL, D.cells, D.cell, D.cell', St.lk, obPut, obDel, List.lookup, cut, pickD, splice, fillParts, fillRows, elem_cons, newsOf, D.pl, D.forget, forgetL, Ob.forget, forgetO, eqCells, sg, leD, leDL, leOb, apartK, St.le, D.keys, keysL, D.rows, rowsL, obKeys, addKeys, reach, pos, D.ren, renL, Ob.ren, inM, outM, inObs, outObs, goneK, apartN, okNames_eq, okNms, obNms, namesOK_nil, namesOK_cons, freeOK_nil, freeOK_cons, D.frz, frzL, Ob.frz, frzO, St.frz, forgetLs, dropObs, putObs, hcall, freeOf, keeps, baseN, shD, isShift, shMax, k_bad, VCopsG, frz_nil, actx, actc, cnum, St.frzT, St.opnT, St.clsT, D.opn, opnL, Ob.opn, opnO, ir_label_Check_b0, g, hjl, elem_map, lbc, lbOf]
      have key : ∀ q : pre[j] = l, l ∈ pre := fun q => q ▸ List.getElem_mem hjl
      refine ⟨fun e1 e2 => (hch7 (key (Prod.ext e1 e2))).symm, fun hne => ⟨by simp only [inR]; omega, hP' _ [] ⟨j + 1, by omega, ?_⟩ (by simp [k_seq, k_block, k_skip, k_reg, k_alt, k_cond, k_exit, k_ret, kf_nil, kf_seq_n, kf_seq_e, kf_seq_r, kf_blk_n, kf_blk_e, kf_blk_r, kf_lp_n, kf_lp_e, kf_lp_r, kf_cut_n, kf_cut_e, kf_cut_r, mkTm, VCops, VCalt, istep, act, gd, applyE, wrapD, Opd.ev, get_mk, set_mk, set_mk0, tget16, tset16, tget_0, tset_0, tget_1, tset_1, tget_2, tset_2, tget_3, tset_3, tget_4, tset_4, tget_5, tset_5, tget_6, tset_6, tget_7, tset_7, tget_8, tset_8, tget_9, tset_9, tget_10, tset_10, tget_11, tset_11, tget_12, tset_12, tget_13, tset_13, tget_14, tset_14, tget_15, tset_15, D.un, D.gu, gus, IOp.opds, binD, fnPost, getRes, IRes.get, oneRes, D.out, outL, D.clos, closL, D.norow, norowL, D.lv, lvL, D.scal, scalL, D.cells, D.cell, D.cell', St.lk, obPut, obDel, List.lookup, cut, pickD, splice, fillParts, fillRows, elem_cons, newsOf, D.pl, D.forget, forgetL, Ob.forget, forgetO, eqCells, sg, leD, leDL, leOb, apartK, St.le, D.keys, keysL, D.rows, rowsL, obKeys, addKeys, reach, pos, D.ren, renL, Ob.ren, inM, outM, inObs, outObs, goneK, apartN, okNames_eq, okNms, obNms, namesOK_nil, namesOK_cons, freeOK_nil, freeOK_cons, D.frz, frzL, Ob.frz, frzO, St.frz, forgetLs, dropObs, putObs, hcall, freeOf, keeps, baseN, shD, isShift, shMax, k_bad, VCopsG, frz_nil, actx, actc, cnum, St.frzT, St.opnT, St.clsT, D.opn, opnL, Ob.opn, opnO, lbc]) (by simp; omega)⟩⟩
      rw [hd', List.mem_append]
      rintro (q | q)
      · exact hnm q
      · simp only [List.mem_singleton] at q
        exact hne (by rw [← q]) (by rw [← q])
    · simp [k_seq, k_block, k_skip, k_reg, k_alt, k_cond, k_exit, k_ret, kf_nil, kf_seq_n, kf_seq_e, kf_seq_r, kf_blk_n, kf_blk_e, kf_blk_r, kf_lp_n, kf_lp_e, kf_lp_r, kf_cut_n, kf_cut_e, kf_cut_r, mkTm, VCops, VCalt, istep, act, gd, applyE, wrapD, Opd.ev, get_mk, set_mk, set_mk0, tget16, tset16, tget_0, tset_0, tget_1, tset_1, tget_2, tset_2, tget_3, tset_3, tget_4, tset_4, tget_5, tset_5, tget_6, tset_6, tget_7, tset_7, tget_8, tset_8, tget_9, tset_9, tget_10, tset_10, tget_11, tset_11, tget_12, tset_12, tget_13, tset_13, tget_14, tset_14, tget_15, tset_15, D.un, D.gu, gus, IOp.opds, binD, fnPost, getRes, IRes.get, oneRes, D.out, outL, D.clos, closL, D.norow, norowL, D.lv, lvL, D.scal, scalL, D.cells, D.cell, D.cell', St.lk, obPut, obDel, List.lookup, cut, pickD, splice, fillParts, fillRows, elem_cons, newsOf, D.pl, D.forget, forgetL, Ob.forget, forgetO, eqCells, sg, leD, leDL, leOb, apartK, St.le, D.keys, keysL, D.rows, rowsL, obKeys, addKeys, reach, pos, D.ren, renL, Ob.ren, inM, outM, inObs, outObs, goneK, apartN, okNames_eq, okNms, obNms, namesOK_nil, namesOK_cons, freeOK_nil, freeOK_cons, D.frz, frzL, Ob.frz, frzO, St.frz, forgetLs, dropObs, putObs, hcall, freeOf, keeps, baseN, shD, isShift, shMax, k_bad, VCopsG, frz_nil, actx, actc, cnum, St.frzT, St.opnT, St.clsT, D.opn, opnL, Ob.opn, opnO, ir_label_Check_b0, ir_label_Check_r1, Nat.not_lt.2 g]
      refine ⟨by simp only [inR]; omega, hP _ [] ⟨i + 1, by omega, ?_⟩ (by simp [k_seq, k_block, k_skip, k_reg, k_alt, k_cond, k_exit, k_ret, kf_nil, kf_seq_n, kf_seq_e, kf_seq_r, kf_blk_n, kf_blk_e, kf_blk_r, kf_lp_n, kf_lp_e, kf_lp_r, kf_cut_n, kf_cut_e, kf_cut_r, mkTm, VCops, VCalt, istep, act, gd, applyE, wrapD, Opd.ev, get_mk, set_mk, set_mk0, tget16, tset16, tget_0, tset_0, tget_1, tset_1, tget_2, tset_2, tget_3, tset_3, tget_4, tset_4, tget_5, tset_5, tget_6, tset_6, tget_7, tset_7, tget_8, tset_8, tget_9, tset_9, tget_10, tset_10, tget_11, tset_11, tget_12, tset_12, tget_13, tset_13, tget_14, tset_14, tget_15, tset_15, D.un, D.gu, gus, IOp.opds, binD, fnPost, getRes, IRes.get, oneRes, D.out, outL, D.clos, closL, D.norow, norowL, D.lv, lvL, D.scal, scalL, D.cells, D.cell, D.cell', St.lk, obPut, obDel, List.lookup, cut, pickD, splice, fillParts, fillRows, elem_cons, newsOf, D.pl, D.forget, forgetL, Ob.forget, forgetO, eqCells, sg, leD, leDL, leOb, apartK, St.le, D.keys, keysL, D.rows, rowsL, obKeys, addKeys, reach, pos, D.ren, renL, Ob.ren, inM, outM, inObs, outObs, goneK, apartN, okNames_eq, okNms, obNms, namesOK_nil, namesOK_cons, freeOK_nil, freeOK_cons, D.frz, frzL, Ob.frz, frzO, St.frz, forgetLs, dropObs, putObs, hcall, freeOf, keeps, baseN, shD, isShift, shMax, k_bad, VCopsG, frz_nil, actx, actc, cnum, St.frzT, St.opnT, St.clsT, D.opn, opnL, Ob.opn, opnO]) (by simp; omega)⟩
      rw [List.take_of_length_le (by omega)] at hnm
      rw [if_neg hnm] at hinv
      exact hinv
  · simp [k_seq, k_block, k_skip, k_reg, k_alt, k_cond, k_exit, k_ret, kf_nil, kf_seq_n, kf_seq_e, kf_seq_r, kf_blk_n, kf_blk_e, kf_blk_r, kf_lp_n, kf_lp_e, kf_lp_r, kf_cut_n, kf_cut_e, kf_cut_r, mkTm, VCops, VCalt, istep, act, gd, applyE, wrapD, Opd.ev, get_mk, set_mk, set_mk0, tget16, tset16, tget_0, tset_0, tget_1, tset_1, tget_2, tset_2, tget_3, tset_3, tget_4, tset_4, tget_5, tset_5, tget_6, tset_6, tget_7, tset_7, tget_8, tset_8, tget_9, tset_9, tget_10, tset_10, tget_11, tset_11, tget_12, tset_12, tget_13, tset_13, tget_14, tset_14, tget_15, tset_15, D.un, D.gu, gus, IOp.opds, binD, fnPost, getRes, IRes.get, oneRes, D.out, outL, D.clos, closL, D.norow, norowL, D.lv, lvL, D.scal, scalL, D.cells, D.cell, D.cell', St.lk, obPut, obDel, List.lookup, cut, pickD, splice, fillParts, fillRows, elem_cons, newsOf, D.pl, D.forget, forgetL, Ob.forget, forgetO, eqCells, sg, leD, leDL, leOb, apartK, St.le, D.keys, keysL, D.rows, rowsL, obKeys, addKeys, reach, pos, D.ren, renL, Ob.ren, inM, outM, inObs, outObs, goneK, apartN, okNames_eq, okNms, obNms, namesOK_nil, namesOK_cons, freeOK_nil, freeOK_cons, D.frz, frzL, Ob.frz, frzO, St.frz, forgetLs, dropObs, putObs, hcall, freeOf, keeps, baseN, shD, isShift, shMax, k_bad, VCopsG, frz_nil, actx, actc, cnum, St.frzT, St.opnT, St.clsT, D.opn, opnL, Ob.opn, opnO, ir_label_Check_b2, ir_label_Check_r3, Nat.not_lt.2 h]
    have hz : chkL [] ls = 0 := by rw [← hinv, List.drop_eq_nil_of_le h, chkL]
    have hc : check s ls p = if p < 1 ∨ 1048576 < p then 2 else 0 := by
      rw [check, if_neg (by omega), if_neg (by omega), if_pos hz]
    rw [hc]
    exact ⟨fun q => by rw [if_pos q], fun q1 q2 => by rw [if_neg (by omega)]⟩

theorem v_Config (h1 : T.sp n_reredoskeep_picked = some sp_picked) (h2 : T.sp n_reredoskeep_Lab = some sp_Lab) : Verified T ir_reredoskeep_Config sp_Config := by
  refine Verified.mk ?_
  rintro ds ⟨s, ns, p, rfl, hs, ⟨hns, hlen⟩, hp⟩
  simp only [sp_Config, intsOf_intsD]
  have b1 := pk_bounds s 3 (by decide)
  have b2 := pk_bounds p 4 (by decide)
  generalize hgs : pk s 3 = s' at b1
  generalize hgp : pk p 4 = p' at b2
  simp [k_seq, k_block, k_skip, k_reg, k_alt, k_cond, k_exit, k_ret, kf_nil, kf_seq_n, kf_seq_e, kf_seq_r, kf_blk_n, kf_blk_e, kf_blk_r, kf_lp_n, kf_lp_e, kf_lp_r, kf_cut_n, kf_cut_e, kf_cut_r, mkTm, VCops, VCalt, istep, act, gd, applyE, wrapD, Opd.ev, get_mk, set_mk, set_mk0, tget16, tset16, tget_0, tset_0, tget_1, tset_1, tget_2, tset_2, tget_3, tset_3, tget_4, tset_4, tget_5, tset_5, tget_6, tset_6, tget_7, tset_7, tget_8, tset_8, tget_9, tset_9, tget_10, tset_10, tget_11, tset_11, tget_12, tset_12, tget_13, tset_13, tget_14, tset_14, tget_15, tset_15, D.un, D.gu, gus, IOp.opds, binD, fnPost, getRes, IRes.get, oneRes, D.out, outL, D.clos, closL, D.norow, norowL, D.lv, lvL, D.scal, scalL, D.cells, D.cell, D.cell', St.lk, obPut, obDel, List.lookup, cut, pickD, splice, fillParts, fillRows, elem_cons, newsOf, D.pl, D.forget, forgetL, Ob.forget, forgetO, eqCells, sg, leD, leDL, leOb, apartK, St.le, D.keys, keysL, D.rows, rowsL, obKeys, addKeys, reach, pos, D.ren, renL, Ob.ren, inM, outM, inObs, outObs, goneK, apartN, okNames_eq, okNms, obNms, namesOK_nil, namesOK_cons, freeOK_nil, freeOK_cons, D.frz, frzL, Ob.frz, frzO, St.frz, forgetLs, dropObs, putObs, hcall, freeOf, keeps, baseN, shD, isShift, shMax, k_bad, VCopsG, frz_nil, actx, actc, cnum, St.frzT, St.opnT, St.clsT, D.opn, opnL, Ob.opn, opnO, ir_reredoskeep_Config, h1, sp_picked, cfgD, and_assoc, hs, hp, hgs, hgp, intsD]
  refine ⟨by simp only [inR]; omega, by simp only [inR]; omega, ?_⟩
  refine k_loop (ι := {x : Nat × List (Int × Int) // x.1 ≤ ns.length ∧ x.2.length ≤ 4 ∧ cfgL (ns.drop x.1) x.2 = cfgL ns []}) (fun x => ⟨mkTm 67 0 [(1, .fz 1 (ns.map ic)), (6, .own 6 0), (7, .own 7 0), (8, .int .i64 x.1.1)], [(6, .box [.int .i64 0, .nl 2, .int .i64 0]), (7, .box [.int .i64 (1 + s'), .row 100, .int .i64 (1 + p')]), (100, .row 2 (x.1.2.map lbc))]⟩)
    (fun x => ns.length - x.1.1) [(100, none)] ⟨(0, []), by simp⟩ (by simp [k_seq, k_block, k_skip, k_reg, k_alt, k_cond, k_exit, k_ret, kf_nil, kf_seq_n, kf_seq_e, kf_seq_r, kf_blk_n, kf_blk_e, kf_blk_r, kf_lp_n, kf_lp_e, kf_lp_r, kf_cut_n, kf_cut_e, kf_cut_r, mkTm, VCops, VCalt, istep, act, gd, applyE, wrapD, Opd.ev, get_mk, set_mk, set_mk0, tget16, tset16, tget_0, tset_0, tget_1, tset_1, tget_2, tset_2, tget_3, tset_3, tget_4, tset_4, tget_5, tset_5, tget_6, tset_6, tget_7, tset_7, tget_8, tset_8, tget_9, tset_9, tget_10, tset_10, tget_11, tset_11, tget_12, tset_12, tget_13, tset_13, tget_14, tset_14, tget_15, tset_15, D.un, D.gu, gus, IOp.opds, binD, fnPost, getRes, IRes.get, oneRes, D.out, outL, D.clos, closL, D.norow, norowL, D.lv, lvL, D.scal, scalL, D.cells, D.cell, D.cell', St.lk, obPut, obDel, List.lookup, cut, pickD, splice, fillParts, fillRows, elem_cons, newsOf, D.pl, D.forget, forgetL, Ob.forget, forgetO, eqCells, sg, leD, leDL, leOb, apartK, St.le, D.keys, keysL, D.rows, rowsL, obKeys, addKeys, reach, pos, D.ren, renL, Ob.ren, inM, outM, inObs, outObs, goneK, apartN, okNames_eq, okNms, obNms, namesOK_nil, namesOK_cons, freeOK_nil, freeOK_cons, D.frz, frzL, Ob.frz, frzO, St.frz, forgetLs, dropObs, putObs, hcall, freeOf, keeps, baseN, shD, isShift, shMax, k_bad, VCopsG, frz_nil, actx, actc, cnum, St.frzT, St.opnT, St.clsT, D.opn, opnL, Ob.opn, opnO]) ?_
  rintro ⟨⟨i, acc⟩, hi, hacc, hinv⟩ P hP
  simp only at hi hacc hinv hP
  rcases Nat.lt_or_ge i ns.length with h | h
  · have hd : ns.drop i = ns[i] :: ns.drop (i + 1) := List.drop_eq_getElem_cons h
    rw [hd, cfgL] at hinv
    rcases Nat.lt_or_ge acc.length 4 with g | g
    · rw [if_pos g] at hinv
      have g' : (acc.length : Int) < 4 := by omega
      simp [k_seq, k_block, k_skip, k_reg, k_alt, k_cond, k_exit, k_ret, kf_nil, kf_seq_n, kf_seq_e, kf_seq_r, kf_blk_n, kf_blk_e, kf_blk_r, kf_lp_n, kf_lp_e, kf_lp_r, kf_cut_n, kf_cut_e, kf_cut_r, mkTm, VCops, VCalt, istep, act, gd, applyE, wrapD, Opd.ev, get_mk, set_mk, set_mk0, tget16, tset16, tget_0, tset_0, tget_1, tset_1, tget_2, tset_2, tget_3, tset_3, tget_4, tset_4, tget_5, tset_5, tget_6, tset_6, tget_7, tset_7, tget_8, tset_8, tget_9, tset_9, tget_10, tset_10, tget_11, tset_11, tget_12, tset_12, tget_13, tset_13, tget_14, tset_14, tget_15, tset_15, D.un, D.gu, gus, IOp.opds, binD, fnPost, getRes, IRes.get, oneRes, D.out, outL, D.clos, closL, D.norow, norowL, D.lv, lvL, D.scal, scalL, D.cells, D.cell, D.cell', St.lk, obPut, obDel, List.lookup, cut, pickD, splice, fillParts, fillRows, elem_cons, newsOf, D.pl, D.forget, forgetL, Ob.forget, forgetO, eqCells, sg, leD, leDL, leOb, apartK, St.le, D.keys, keysL, D.rows, rowsL, obKeys, addKeys, reach, pos, D.ren, renL, Ob.ren, inM, outM, inObs, outObs, goneK, apartN, okNames_eq, okNms, obNms, namesOK_nil, namesOK_cons, freeOK_nil, freeOK_cons, D.frz, frzL, Ob.frz, frzO, St.frz, forgetLs, dropObs, putObs, hcall, freeOf, keeps, baseN, shD, isShift, shMax, k_bad, VCopsG, frz_nil, actx, actc, cnum, St.frzT, St.opnT, St.clsT, D.opn, opnL, Ob.opn, opnO, ir_reredoskeep_Config_b3, h, g', h2, sp_Lab, elem_map, ic, lb, and_assoc]
      refine ⟨hns _ (List.getElem_mem h), ?_⟩
      generalize lab ns[i] = l at hinv
      refine k_loop (ι := {j : Nat // j ≤ acc.length}) (fun x => ⟨mkTm 67 0 [(1, .fz 1 (ns.map ic)), (6, .own 6 0), (7, .own 7 0), (8, .int .i64 i), (9, .own 9 0), (10, .bool (decide (l ∈ acc.take x.1))), (38, .row 100), (39, .int .i64 acc.length), (40, .int .i64 x.1)], [(6, .box [.int .i64 0, .nl 2, .int .i64 0]), (7, .box [.int .i64 (1 + s'), .row 100, .int .i64 (1 + p')]), (100, .row 2 (acc.map lbc)), (9, .box (lbc l))]⟩)
        (fun x => acc.length - x.1) [] ⟨0, by omega⟩ (by simp [k_seq, k_block, k_skip, k_reg, k_alt, k_cond, k_exit, k_ret, kf_nil, kf_seq_n, kf_seq_e, kf_seq_r, kf_blk_n, kf_blk_e, kf_blk_r, kf_lp_n, kf_lp_e, kf_lp_r, kf_cut_n, kf_cut_e, kf_cut_r, mkTm, VCops, VCalt, istep, act, gd, applyE, wrapD, Opd.ev, get_mk, set_mk, set_mk0, tget16, tset16, tget_0, tset_0, tget_1, tset_1, tget_2, tset_2, tget_3, tset_3, tget_4, tset_4, tget_5, tset_5, tget_6, tset_6, tget_7, tset_7, tget_8, tset_8, tget_9, tset_9, tget_10, tset_10, tget_11, tset_11, tget_12, tset_12, tget_13, tset_13, tget_14, tset_14, tget_15, tset_15, D.un, D.gu, gus, IOp.opds, binD, fnPost, getRes, IRes.get, oneRes, D.out, outL, D.clos, closL, D.norow, norowL, D.lv, lvL, D.scal, scalL, D.cells, D.cell, D.cell', St.lk, obPut, obDel, List.lookup, cut, pickD, splice, fillParts, fillRows, elem_cons, newsOf, D.pl, D.forget, forgetL, Ob.forget, forgetO, eqCells, sg, leD, leDL, leOb, apartK, St.le, D.keys, keysL, D.rows, rowsL, obKeys, addKeys, reach, pos, D.ren, renL, Ob.ren, inM, outM, inObs, outObs, goneK, apartN, okNames_eq, okNms, obNms, namesOK_nil, namesOK_cons, freeOK_nil, freeOK_cons, D.frz, frzL, Ob.frz, frzO, St.frz, forgetLs, dropObs, putObs, hcall, freeOf, keeps, baseN, shD, isShift, shMax, k_bad, VCopsG, frz_nil, actx, actc, cnum, St.frzT, St.opnT, St.clsT, D.opn, opnL, Ob.opn, opnO, lbc]) ?_
      rintro ⟨j, hj⟩ P' hP'
      rcases Nat.lt_or_ge j acc.length with k | k
      · have hd' : acc.take (j + 1) = acc.take j ++ [acc[j]] := (List.take_append_getElem k).symm
        have hb : (decide (l ∈ acc.take j) || (acc[j].fst == l.fst && acc[j].snd == l.snd)) = decide (l ∈ acc.take (j + 1)) := by
          rw [hd', mem_snoc_dec]
        simp [k_seq, k_block, k_skip, k_reg, k_alt, k_cond, k_exit, k_ret, kf_nil, kf_seq_n, kf_seq_e, kf_seq_r, kf_blk_n, kf_blk_e, kf_blk_r, kf_lp_n, kf_lp_e, kf_lp_r, kf_cut_n, kf_cut_e, kf_cut_r, mkTm, VCops, VCalt, istep, act, gd, applyE, wrapD, Opd.ev, get_mk, set_mk, set_mk0, tget16, tset16, tget_0, tset_0, tget_1, tset_1, tget_2, tset_2, tget_3, tset_3, tget_4, tset_4, tget_5, tset_5, tget_6, tset_6, tget_7, tset_7, tget_8, tset_8, tget_9, tset_9, tget_10, tset_10, tget_11, tset_11, tget_12, tset_12, tget_13, tset_13, tget_14, tset_14, tget_15, tset_15, D.un, D.gu, gus, IOp.opds, binD, fnPost, getRes, IRes.get, oneRes, D.out, outL, D.clos, closL, D.norow, norowL, D.lv, lvL, D.scal, scalL, D.cells, D.cell, D.cell', St.lk, obPut, obDel, List.lookup, cut, pickD, splice, fillParts, fillRows, elem_cons, newsOf, D.pl, D.forget, forgetL, Ob.forget, forgetO, eqCells, sg, leD, leDL, leOb, apartK, St.le, D.keys, keysL, D.rows, rowsL, obKeys, addKeys, reach, pos, D.ren, renL, Ob.ren, inM, outM, inObs, outObs, goneK, apartN, okNames_eq, okNms, obNms, namesOK_nil, namesOK_cons, freeOK_nil, freeOK_cons, D.frz, frzL, Ob.frz, frzO, St.frz, forgetLs, dropObs, putObs, hcall, freeOf, keeps, baseN, shD, isShift, shMax, k_bad, VCopsG, frz_nil, actx, actc, cnum, St.frzT, St.opnT, St.clsT, D.opn, opnL, Ob.opn, opnO, ir_reredoskeep_Config_b0, k, elem_map, lbc]
        exact ⟨by simp only [inR]; omega, hP' _ [] ⟨j + 1, by omega⟩ (by simp [k_seq, k_block, k_skip, k_reg, k_alt, k_cond, k_exit, k_ret, kf_nil, kf_seq_n, kf_seq_e, kf_seq_r, kf_blk_n, kf_blk_e, kf_blk_r, kf_lp_n, kf_lp_e, kf_lp_r, kf_cut_n, kf_cut_e, kf_cut_r, mkTm, VCops, VCalt, istep, act, gd, applyE, wrapD, Opd.ev, get_mk, set_mk, set_mk0, tget16, tset16, tget_0, tset_0, tget_1, tset_1, tget_2, tset_2, tget_3, tset_3, tget_4, tset_4, tget_5, tset_5, tget_6, tset_6, tget_7, tset_7, tget_8, tset_8, tget_9, tset_9, tget_10, tset_10, tget_11, tset_11, tget_12, tset_12, tget_13, tset_13, tget_14, tset_14, tget_15, tset_15, D.un, D.gu, gus, IOp.opds, binD, fnPost, getRes, IRes.get, oneRes, D.out, outL, D.clos, closL, D.norow, norowL, D.lv, lvL, D.scal, scalL, D.cells, D.cell, D.cell', St.lk, obPut, obDel, List.lookup, cut, pickD, splice, fillParts, fillRows, elem_cons, newsOf, D.pl, D.forget, forgetL, Ob.forget, forgetO, eqCells, sg, leD, leDL, leOb, apartK, St.le, D.keys, keysL, D.rows, rowsL, obKeys, addKeys, reach, pos, D.ren, renL, Ob.ren, inM, outM, inObs, outObs, goneK, apartN, okNames_eq, okNms, obNms, namesOK_nil, namesOK_cons, freeOK_nil, freeOK_cons, D.frz, frzL, Ob.frz, frzO, St.frz, forgetLs, dropObs, putObs, hcall, freeOf, keeps, baseN, shD, isShift, shMax, k_bad, VCopsG, frz_nil, actx, actc, cnum, St.frzT, St.opnT, St.clsT, D.opn, opnL, Ob.opn, opnO, lbc, hb]) (by simp; omega)⟩
      · simp [k_seq, k_block, k_skip, k_reg, k_alt, k_cond, k_exit, k_ret, kf_nil, kf_seq_n, kf_seq_e, kf_seq_r, kf_blk_n, kf_blk_e, kf_blk_r, kf_lp_n, kf_lp_e, kf_lp_r, kf_cut_n, kf_cut_e, kf_cut_r, mkTm, VCops, VCalt, istep, act, gd, applyE, wrapD, Opd.ev, get_mk, set_mk, set_mk0, tget16, tset16, tget_0, tset_0, tget_1, tset_1, tget_2, tset_2, tget_3, tset_3, tget_4, tset_4, tget_5, tset_5, tget_6, tset_6, tget_7, tset_7, tget_8, tset_8, tget_9, tset_9, tget_10, tset_10, tget_11, tset_11, tget_12, tset_12, tget_13, tset_13, tget_14, tset_14, tget_15, tset_15, D.un, D.gu, gus, IOp.opds, binD, fnPost, getRes, IRes.get, oneRes, D.out, outL, D.clos, closL, D.norow, norowL, D.lv, lvL, D.scal, scalL, D.cells, D.cell, D.cell', St.lk, obPut, obDel, List.lookup, cut, pickD, splice, fillParts, fillRows, elem_cons, newsOf, D.pl, D.forget, forgetL, Ob.forget, forgetO, eqCells, sg, leD, leDL, leOb, apartK, St.le, D.keys, keysL, D.rows, rowsL, obKeys, addKeys, reach, pos, D.ren, renL, Ob.ren, inM, outM, inObs, outObs, goneK, apartN, okNames_eq, okNms, obNms, namesOK_nil, namesOK_cons, freeOK_nil, freeOK_cons, D.frz, frzL, Ob.frz, frzO, St.frz, forgetLs, dropObs, putObs, hcall, freeOf, keeps, baseN, shD, isShift, shMax, k_bad, VCopsG, frz_nil, actx, actc, cnum, St.frzT, St.opnT, St.clsT, D.opn, opnL, Ob.opn, opnO, ir_reredoskeep_Config_b0, ir_reredoskeep_Config_r1, ir_reredoskeep_Config_r2, Nat.not_lt.2 k, lbc]
        rw [List.take_of_length_le k]
        refine ⟨fun q => ⟨by omega, by simp only [inR]; omega, hP _ [(100, some 57)] ⟨(i + 1, acc ++ [l]), by simp; omega, by simp; omega, ?_⟩ (by simp [k_seq, k_block, k_skip, k_reg, k_alt, k_cond, k_exit, k_ret, kf_nil, kf_seq_n, kf_seq_e, kf_seq_r, kf_blk_n, kf_blk_e, kf_blk_r, kf_lp_n, kf_lp_e, kf_lp_r, kf_cut_n, kf_cut_e, kf_cut_r, mkTm, VCops, VCalt, istep, act, gd, applyE, wrapD, Opd.ev, get_mk, set_mk, set_mk0, tget16, tset16, tget_0, tset_0, tget_1, tset_1, tget_2, tset_2, tget_3, tset_3, tget_4, tset_4, tget_5, tset_5, tget_6, tset_6, tget_7, tset_7, tget_8, tset_8, tget_9, tset_9, tget_10, tset_10, tget_11, tset_11, tget_12, tset_12, tget_13, tset_13, tget_14, tset_14, tget_15, tset_15, D.un, D.gu, gus, IOp.opds, binD, fnPost, getRes, IRes.get, oneRes, D.out, outL, D.clos, closL, D.norow, norowL, D.lv, lvL, D.scal, scalL, D.cells, D.cell, D.cell', St.lk, obPut, obDel, List.lookup, cut, pickD, splice, fillParts, fillRows, elem_cons, newsOf, D.pl, D.forget, forgetL, Ob.forget, forgetO, eqCells, sg, leD, leDL, leOb, apartK, St.le, D.keys, keysL, D.rows, rowsL, obKeys, addKeys, reach, pos, D.ren, renL, Ob.ren, inM, outM, inObs, outObs, goneK, apartN, okNames_eq, okNms, obNms, namesOK_nil, namesOK_cons, freeOK_nil, freeOK_cons, D.frz, frzL, Ob.frz, frzO, St.frz, forgetLs, dropObs, putObs, hcall, freeOf, keeps, baseN, shD, isShift, shMax, k_bad, VCopsG, frz_nil, actx, actc, cnum, St.frzT, St.opnT, St.clsT, D.opn, opnL, Ob.opn, opnO, lbc]) (by simp; omega)⟩,
          fun q => ⟨by simp only [inR]; omega, hP _ [] ⟨(i + 1, acc), by simp; omega, by simp; omega, ?_⟩ (by simp [k_seq, k_block, k_skip, k_reg, k_alt, k_cond, k_exit, k_ret, kf_nil, kf_seq_n, kf_seq_e, kf_seq_r, kf_blk_n, kf_blk_e, kf_blk_r, kf_lp_n, kf_lp_e, kf_lp_r, kf_cut_n, kf_cut_e, kf_cut_r, mkTm, VCops, VCalt, istep, act, gd, applyE, wrapD, Opd.ev, get_mk, set_mk, set_mk0, tget16, tset16, tget_0, tset_0, tget_1, tset_1, tget_2, tset_2, tget_3, tset_3, tget_4, tset_4, tget_5, tset_5, tget_6, tset_6, tget_7, tset_7, tget_8, tset_8, tget_9, tset_9, tget_10, tset_10, tget_11, tset_11, tget_12, tset_12, tget_13, tset_13, tget_14, tset_14, tget_15, tset_15, D.un, D.gu, gus, IOp.opds, binD, fnPost, getRes, IRes.get, oneRes, D.out, outL, D.clos, closL, D.norow, norowL, D.lv, lvL, D.scal, scalL, D.cells, D.cell, D.cell', St.lk, obPut, obDel, List.lookup, cut, pickD, splice, fillParts, fillRows, elem_cons, newsOf, D.pl, D.forget, forgetL, Ob.forget, forgetO, eqCells, sg, leD, leDL, leOb, apartK, St.le, D.keys, keysL, D.rows, rowsL, obKeys, addKeys, reach, pos, D.ren, renL, Ob.ren, inM, outM, inObs, outObs, goneK, apartN, okNames_eq, okNms, obNms, namesOK_nil, namesOK_cons, freeOK_nil, freeOK_cons, D.frz, frzL, Ob.frz, frzO, St.frz, forgetLs, dropObs, putObs, hcall, freeOf, keeps, baseN, shD, isShift, shMax, k_bad, VCopsG, frz_nil, actx, actc, cnum, St.frzT, St.opnT, St.clsT, D.opn, opnL, Ob.opn, opnO, lbc]) (by simp; omega)⟩⟩
        · rw [if_neg q] at hinv; exact hinv
        · rw [if_pos q] at hinv; exact hinv
    · rw [if_neg (by omega)] at hinv
      have g' : ¬ (acc.length : Int) < 4 := by omega
      simp [k_seq, k_block, k_skip, k_reg, k_alt, k_cond, k_exit, k_ret, kf_nil, kf_seq_n, kf_seq_e, kf_seq_r, kf_blk_n, kf_blk_e, kf_blk_r, kf_lp_n, kf_lp_e, kf_lp_r, kf_cut_n, kf_cut_e, kf_cut_r, mkTm, VCops, VCalt, istep, act, gd, applyE, wrapD, Opd.ev, get_mk, set_mk, set_mk0, tget16, tset16, tget_0, tset_0, tget_1, tset_1, tget_2, tset_2, tget_3, tset_3, tget_4, tset_4, tget_5, tset_5, tget_6, tset_6, tget_7, tset_7, tget_8, tset_8, tget_9, tset_9, tget_10, tset_10, tget_11, tset_11, tget_12, tset_12, tget_13, tset_13, tget_14, tset_14, tget_15, tset_15, D.un, D.gu, gus, IOp.opds, binD, fnPost, getRes, IRes.get, oneRes, D.out, outL, D.clos, closL, D.norow, norowL, D.lv, lvL, D.scal, scalL, D.cells, D.cell, D.cell', St.lk, obPut, obDel, List.lookup, cut, pickD, splice, fillParts, fillRows, elem_cons, newsOf, D.pl, D.forget, forgetL, Ob.forget, forgetO, eqCells, sg, leD, leDL, leOb, apartK, St.le, D.keys, keysL, D.rows, rowsL, obKeys, addKeys, reach, pos, D.ren, renL, Ob.ren, inM, outM, inObs, outObs, goneK, apartN, okNames_eq, okNms, obNms, namesOK_nil, namesOK_cons, freeOK_nil, freeOK_cons, D.frz, frzL, Ob.frz, frzO, St.frz, forgetLs, dropObs, putObs, hcall, freeOf, keeps, baseN, shD, isShift, shMax, k_bad, VCopsG, frz_nil, actx, actc, cnum, St.frzT, St.opnT, St.clsT, D.opn, opnL, Ob.opn, opnO, ir_reredoskeep_Config_b3, ir_reredoskeep_Config_r4, h, g']
      rw [cfgLs, ← hinv]
      exact ⟨fun q => by rw [if_pos q]; rfl, fun q => by rw [if_neg q]⟩
  · simp [k_seq, k_block, k_skip, k_reg, k_alt, k_cond, k_exit, k_ret, kf_nil, kf_seq_n, kf_seq_e, kf_seq_r, kf_blk_n, kf_blk_e, kf_blk_r, kf_lp_n, kf_lp_e, kf_lp_r, kf_cut_n, kf_cut_e, kf_cut_r, mkTm, VCops, VCalt, istep, act, gd, applyE, wrapD, Opd.ev, get_mk, set_mk, set_mk0, tget16, tset16, tget_0, tset_0, tget_1, tset_1, tget_2, tset_2, tget_3, tset_3, tget_4, tset_4, tget_5, tset_5, tget_6, tset_6, tget_7, tset_7, tget_8, tset_8, tget_9, tset_9, tget_10, tset_10, tget_11, tset_11, tget_12, tset_12, tget_13, tset_13, tget_14, tset_14, tget_15, tset_15, D.un, D.gu, gus, IOp.opds, binD, fnPost, getRes, IRes.get, oneRes, D.out, outL, D.clos, closL, D.norow, norowL, D.lv, lvL, D.scal, scalL, D.cells, D.cell, D.cell', St.lk, obPut, obDel, List.lookup, cut, pickD, splice, fillParts, fillRows, elem_cons, newsOf, D.pl, D.forget, forgetL, Ob.forget, forgetO, eqCells, sg, leD, leDL, leOb, apartK, St.le, D.keys, keysL, D.rows, rowsL, obKeys, addKeys, reach, pos, D.ren, renL, Ob.ren, inM, outM, inObs, outObs, goneK, apartN, okNames_eq, okNms, obNms, namesOK_nil, namesOK_cons, freeOK_nil, freeOK_cons, D.frz, frzL, Ob.frz, frzO, St.frz, forgetLs, dropObs, putObs, hcall, freeOf, keeps, baseN, shD, isShift, shMax, k_bad, VCopsG, frz_nil, actx, actc, cnum, St.frzT, St.opnT, St.clsT, D.opn, opnL, Ob.opn, opnO, ir_reredoskeep_Config_b3, ir_reredoskeep_Config_r4, Nat.not_lt.2 h]
    rw [List.drop_eq_nil_of_le h, cfgL] at hinv
    rw [cfgLs, ← hinv]
    exact ⟨fun q => by rw [if_pos q]; rfl, fun q => by rw [if_neg q]⟩
end
end Go.Proofs.Ytehobldeogpcbaa
