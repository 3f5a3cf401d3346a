/-
  Tapes of many records: what makes them, reads them and compares records computes what the plain functions beside it say. Conditions: those of each specification's 'pre', and that the functions that are called are what theirs say.
-/
import Derived.Test.YteaonhddolfppaaDoorTapP
set_option linter.unusedVariables false
set_option linter.unusedSimpArgs false
namespace Go.Proofs.YteaonhddolfppaaDoor
open Go Go.Vcg

def recsD (rs : List Rc) : D := .fz 8 (rs.map recC)
def recsOf : D → List Rc
  | .fz _ es => es.map fun e => recOf (.agg e)
  | _ => []
theorem recsOf_recsD (rs : List Rc) : recsOf (recsD rs) = rs := by
  simp only [recsOf, recsD, List.map_map]
  have : (fun e => recOf (.agg e)) ∘ recC = id := by
    funext r
    exact recOf_recD r
  rw [this, List.map_id]
def rawsOf : D → List Rw
  | .fz _ es => es.map fun e => rawOf (.agg e)
  | _ => []
theorem rawsOf_rawsD (l : List Rw) : rawsOf (rawsD l) = l := by
  simp only [rawsOf, rawsD, List.map_map]
  have : (fun e => rawOf (.agg e)) ∘ rawC = id := rfl
  rw [this, List.map_id]

def sp_records : Sp := { pre := fun ds => ∃ x rs most, ds = [x, rawsD rs, .int .i64 most] ∧ okSL x ∧ okRaws rs ∧ 0 ≤ most ∧ most ≤ 1000, F := fun | [x, y, .int _ most] => recsD (((rawsOf y).take most.toNat).map (mkRec (cfgOf x).1)) | _ => .any }
noncomputable def sp_taped : Sp := { pre := fun ds => ∃ x rs, ds = [x, recsD rs] ∧ isCfg x = true ∧ 0 ≤ (cfgOf x).1 ∧ (cfgOf x).1 ≤ 4 ∧ (∀ r ∈ rs, chkR (cfgOf x).1 (cfgOf x).2.1 (cfgOf x).2.2 r = 0) ∧ rs.length ≤ 100, F := fun | [x, y] => .tup [tapD (allT (recsOf y)) 0, .bool true] | _ => .any }
noncomputable def sp_begins : Sp := { pre := fun ds => ∃ a b, ds = [recsD a, recsD b] ∧ (∀ r ∈ a, r.sites.length ≤ 1000000) ∧ (∀ r ∈ b, r.sites.length ≤ 1000000) ∧ a.length ≤ 1000000 ∧ b.length ≤ 1000000, F := fun | [x, y] => .bool (decide ((recsOf y).take (recsOf x).length = recsOf x)) | _ => .any }
noncomputable def sp_Recover : Sp := { pre := fun ds => ∃ x bs n, ds = [x, tapD bs n] ∧ isCfg x = true ∧ check (cfgOf x).1 (cfgOf x).2.1 (cfgOf x).2.2 = 0 ∧ okBytes bs ∧ bs.length ≤ 140737488355328, F := fun
  | [x, y] => if badT (tapOf y).1 (tapOf y).2 = true then .tup [recsD [], tapD [] 0, .int .i64 9] else
    .tup [recsD (recov (cfgOf x).1 (cfgOf x).2.1 (cfgOf x).2.2 (tapOf y).1.length (tapOf y).1).1, tapD ((tapOf y).1.take (recov (cfgOf x).1 (cfgOf x).2.1 (cfgOf x).2.2 (tapOf y).1.length (tapOf y).1).2) (min (tapOf y).2 (recov (cfgOf x).1 (cfgOf x).2.1 (cfgOf x).2.2 (tapOf y).1.length (tapOf y).1).2), .int .i64 0]
  | _ => .any }

theorem app_F {S P n : Int} {ls : List (Int × Int)} {bs : List Int} {r : Rc} (hb : badT bs n = false) (hc : chkR S ls P r = 0) (hl : bs.length + 1 + (encR r).length ≤ 6000) : sp_Append.F [.agg [.int .i64 S, .fz 2 (ls.map lbc), .int .i64 P], .agg [.fz 1 (bs.map b8), .int .i64 n], .agg (recC r)] = .tup [.agg [.fz 1 ((bs ++ recT1 r).map b8), .int .i64 n], .int .i64 0] := by
  have e1 : D.agg [.int .i64 S, .fz 2 (ls.map lbc), .int .i64 P] = cfgD S ls P := rfl
  have e2 : D.agg [.fz 1 (bs.map b8), .int .i64 n] = tapD bs n := rfl
  have e3 : D.agg (recC r) = recD r := rfl
  have e : appT S ls P bs n r = ((bs ++ recT1 r, n), 0) := by rw [appT, if_neg (by simp [hb]), if_neg (by simp [hc]), if_neg (by omega)]
  rw [e1, e2, e3]
  simp only [sp_Append, cfgOf_cfgD, tapOf_tapD, recOf_recD, e]
  rfl
theorem app_pre {S P n : Int} {ls : List (Int × Int)} {bs : List Int} {r : Rc} (hx : isCfg (cfgD S ls P) = true) (h4 : S ≤ 4) (h0 : 0 ≤ S) (hl : bs.length ≤ 140737488355328) (hs : r.sites.length ≤ 1000000) : sp_Append.pre [.agg [.int .i64 S, .fz 2 (ls.map lbc), .int .i64 P], .agg [.fz 1 (bs.map b8), .int .i64 n], .agg (recC r)] = True := by
  simp only [sp_Append, eq_iff_iff, iff_true]
  exact ⟨cfgD S ls P, bs, n, r, rfl, hx, by simpa [cfgOf_cfgD] using h4, by simpa [cfgOf_cfgD] using h0, hl, hs⟩
theorem good_enc {S P : Int} {ls : List (Int × Int)} {r : Rc} (hc : chkR S ls P r = 0) (h4 : S ≤ 4) (h0 : 0 ≤ S) : (encR r).length ≤ 19 ∧ r.sites.length ≤ 4 := by
  have h1 := okUpto_len (chkR_zero hc).2.2.2.2.1 h0
  have h2 := encR_len r
  omega

section
variable {T : Tb}
set_option maxRecDepth 100000 in
set_option maxHeartbeats 4000000 in
theorem v_records (h1 : T.sp n_reredoskeep_Record = some sp_Record) : Verified T ir_reredoskeep_records sp_records := by
  refine Verified.mk ?_
  rintro ds ⟨x, rs, most, rfl, hok, ⟨hrs, hlen⟩, hm0, hm1⟩
  obtain ⟨S, ls, p, rfl⟩ := isCfg_cfgD hok.1
  simp only [sp_records, cfgOf_cfgD, rawsOf_rawsD]
  have hx : sp_Record.hx = none := rfl
  have hS4 : S ≤ 4 := hok.2.2.1
  simp (implicitDefEqProofs := false) [k_seq, k_block, k_skip, k_reg, k_alt, k_cond, k_exit, k_ret, kf_nil, kf_seq_n, kf_seq_e, kf_seq_r, kf_blk_n, kf_blk_e, kf_blk_r, kf_lp_n, kf_lp_e, kf_lp_r, kf_cut_n, kf_cut_e, kf_cut_r, mkTm, VCops, VCalt, istep, act, gd, applyE, wrapD, Opd.ev, get_mk, set_mk, set_mk0, tget16, tset16, tget_0, tset_0, tget_1, tset_1, tget_2, tset_2, tget_3, tset_3, tget_4, tset_4, tget_5, tset_5, tget_6, tset_6, tget_7, tset_7, tget_8, tset_8, tget_9, tset_9, tget_10, tset_10, tget_11, tset_11, tget_12, tset_12, tget_13, tset_13, tget_14, tset_14, tget_15, tset_15, D.un, D.gu, gus, IOp.opds, binD, fnPost, getRes, IRes.get, oneRes, D.out, outL, D.clos, closL, D.norow, norowL, D.lv, lvL, D.scal, scalL, D.cells, D.cell, D.cell', St.lk, obPut, obDel, List.lookup, cut, pickD, splice, fillParts, fillRows, elem_cons, newsOf, D.pl, D.forget, forgetL, Ob.forget, forgetO, eqCells, sg, leD, leDL, leOb, apartK, St.le, D.keys, keysL, D.rows, rowsL, obKeys, addKeys, reach, pos, D.ren, renL, Ob.ren, inM, outM, inObs, outObs, goneK, apartN, okNames_eq, okNms, obNms, namesOK_nil, namesOK_cons, freeOK_nil, freeOK_cons, D.frz, frzL, Ob.frz, frzO, St.frz, forgetLs, dropObs, putObs, hcall, freeOf, keeps, baseN, shD, isShift, shMax, k_bad, VCopsG, frz_nil, actx, actc, cnum, St.frzT, St.opnT, St.clsT, D.opn, opnL, Ob.opn, opnO, ir_reredoskeep_records, cfgD, rawsD]
  refine k_loop (ι := {i : Nat // i ≤ rs.length ∧ (i : Int) ≤ most}) (fun x => ⟨mkTm 32 0 [(1, .fz 6 (rs.map rawC)), (2, .int .i64 most), (3, .own 3 0), (7, .row 100), (8, .int .i64 x.1)], [(3, .box [.int .i64 S, .fz 2 (ls.map lbc), .int .i64 p]), (100, .row 8 (((rs.take x.1).map (mkRec S)).map recC))]⟩)
    (fun x => rs.length - x.1) [(100, none)] ⟨0, by omega, by omega⟩ (by simp [k_seq, k_block, k_skip, k_reg, k_alt, k_cond, k_exit, k_ret, kf_nil, kf_seq_n, kf_seq_e, kf_seq_r, kf_blk_n, kf_blk_e, kf_blk_r, kf_lp_n, kf_lp_e, kf_lp_r, kf_cut_n, kf_cut_e, kf_cut_r, mkTm, VCops, VCalt, istep, act, gd, applyE, wrapD, Opd.ev, get_mk, set_mk, set_mk0, tget16, tset16, tget_0, tset_0, tget_1, tset_1, tget_2, tset_2, tget_3, tset_3, tget_4, tset_4, tget_5, tset_5, tget_6, tset_6, tget_7, tset_7, tget_8, tset_8, tget_9, tset_9, tget_10, tset_10, tget_11, tset_11, tget_12, tset_12, tget_13, tset_13, tget_14, tset_14, tget_15, tset_15, D.un, D.gu, gus, IOp.opds, binD, fnPost, getRes, IRes.get, oneRes, D.out, outL, D.clos, closL, D.norow, norowL, D.lv, lvL, D.scal, scalL, D.cells, D.cell, D.cell', St.lk, obPut, obDel, List.lookup, cut, pickD, splice, fillParts, fillRows, elem_cons, newsOf, D.pl, D.forget, forgetL, Ob.forget, forgetO, eqCells, sg, leD, leDL, leOb, apartK, St.le, D.keys, keysL, D.rows, rowsL, obKeys, addKeys, reach, pos, D.ren, renL, Ob.ren, inM, outM, inObs, outObs, goneK, apartN, okNames_eq, okNms, obNms, namesOK_nil, namesOK_cons, freeOK_nil, freeOK_cons, D.frz, frzL, Ob.frz, frzO, St.frz, forgetLs, dropObs, putObs, hcall, freeOf, keeps, baseN, shD, isShift, shMax, k_bad, VCopsG, frz_nil, actx, actc, cnum, St.frzT, St.opnT, St.clsT, D.opn, opnL, Ob.opn, opnO]) ?_
  rintro ⟨i, hi, him⟩ P hP
  by_cases h : i < rs.length ∧ (i : Int) < most
  · obtain ⟨h, hm⟩ := h
    have hil : (i : Int) < rs.length := by omega
    have hel := elem_map rawC rs i h
    have hokr := hrs _ (List.getElem_mem h)
    have ht : rs.take (i + 1) = rs.take i ++ [rs[i]] := (List.take_append_getElem h).symm
    generalize rs[i] = r at hel hokr ht
    have hpre : sp_Record.pre [.agg [.int .i64 S, .fz 2 (ls.map lbc), .int .i64 p], .agg (rawC r)] = True := by
      simp only [sp_Record, eq_iff_iff, iff_true]; exact ⟨_, r, rfl, hok, hokr⟩
    have hF : sp_Record.F [.agg [.int .i64 S, .fz 2 (ls.map lbc), .int .i64 p], .agg (rawC r)] = .agg (recC (mkRec S r)) := by
      simp [sp_Record, cfgOf, lbL_lbc]; rfl
    have hl : (rs.take i).length ≤ 1000 := by rw [List.length_take]; omega
    have hinv : ((rs.take (i + 1)).map (mkRec S)).map recC = ((rs.take i).map (mkRec S)).map recC ++ [recC (mkRec S r)] := by rw [ht]; simp
    generalize hacc : ((rs.take i).map (mkRec S)).map recC = acc at hinv ⊢
    have hla : acc.length ≤ 1000 := by rw [← hacc]; simpa using hl
    clear hacc ht
    generalize mkRec S r = m at hF hinv
    obtain ⟨kind, site, n, key, value, ask, yes, sites⟩ := m
    obtain ⟨k, a, b, c, d, e⟩ := r
    simp only [recC, rawC] at hF hpre hel hinv
    simp (implicitDefEqProofs := false) [k_seq, k_block, k_skip, k_reg, k_alt, k_cond, k_exit, k_ret, kf_nil, kf_seq_n, kf_seq_e, kf_seq_r, kf_blk_n, kf_blk_e, kf_blk_r, kf_lp_n, kf_lp_e, kf_lp_r, kf_cut_n, kf_cut_e, kf_cut_r, mkTm, VCops, VCalt, istep, act, gd, applyE, wrapD, Opd.ev, get_mk, set_mk, set_mk0, tget16, tset16, tget_0, tset_0, tget_1, tset_1, tget_2, tset_2, tget_3, tset_3, tget_4, tset_4, tget_5, tset_5, tget_6, tset_6, tget_7, tset_7, tget_8, tset_8, tget_9, tset_9, tget_10, tset_10, tget_11, tset_11, tget_12, tset_12, tget_13, tset_13, tget_14, tset_14, tget_15, tset_15, D.un, D.gu, gus, IOp.opds, binD, fnPost, getRes, IRes.get, oneRes, D.out, outL, D.clos, closL, D.norow, norowL, D.lv, lvL, D.scal, scalL, D.cells, D.cell, D.cell', St.lk, obPut, obDel, List.lookup, cut, pickD, splice, fillParts, fillRows, elem_cons, newsOf, D.pl, D.forget, forgetL, Ob.forget, forgetO, eqCells, sg, leD, leDL, leOb, apartK, St.le, D.keys, keysL, D.rows, rowsL, obKeys, addKeys, reach, pos, D.ren, renL, Ob.ren, inM, outM, inObs, outObs, goneK, apartN, okNames_eq, okNms, obNms, namesOK_nil, namesOK_cons, freeOK_nil, freeOK_cons, D.frz, frzL, Ob.frz, frzO, St.frz, forgetLs, dropObs, putObs, hcall, freeOf, keeps, baseN, shD, isShift, shMax, k_bad, VCopsG, frz_nil, actx, actc, cnum, St.frzT, St.opnT, St.clsT, D.opn, opnL, Ob.opn, opnO, ir_reredoskeep_records_b0, hil, hm, h, hel, h1, hx, hpre, hF]
    refine ⟨⟨by omega, by omega⟩, by simp only [inR]; omega, hP _ [(100, some 30)] ⟨i + 1, by omega, by omega⟩ ?_ (by simp only; omega)⟩
    simp only [hinv]
    simp (implicitDefEqProofs := false) [k_seq, k_block, k_skip, k_reg, k_alt, k_cond, k_exit, k_ret, kf_nil, kf_seq_n, kf_seq_e, kf_seq_r, kf_blk_n, kf_blk_e, kf_blk_r, kf_lp_n, kf_lp_e, kf_lp_r, kf_cut_n, kf_cut_e, kf_cut_r, mkTm, VCops, VCalt, istep, act, gd, applyE, wrapD, Opd.ev, get_mk, set_mk, set_mk0, tget16, tset16, tget_0, tset_0, tget_1, tset_1, tget_2, tset_2, tget_3, tset_3, tget_4, tset_4, tget_5, tset_5, tget_6, tset_6, tget_7, tset_7, tget_8, tset_8, tget_9, tset_9, tget_10, tset_10, tget_11, tset_11, tget_12, tset_12, tget_13, tset_13, tget_14, tset_14, tget_15, tset_15, D.un, D.gu, gus, IOp.opds, binD, fnPost, getRes, IRes.get, oneRes, D.out, outL, D.clos, closL, D.norow, norowL, D.lv, lvL, D.scal, scalL, D.cells, D.cell, D.cell', St.lk, obPut, obDel, List.lookup, cut, pickD, splice, fillParts, fillRows, elem_cons, newsOf, D.pl, D.forget, forgetL, Ob.forget, forgetO, eqCells, sg, leD, leDL, leOb, apartK, St.le, D.keys, keysL, D.rows, rowsL, obKeys, addKeys, reach, pos, D.ren, renL, Ob.ren, inM, outM, inObs, outObs, goneK, apartN, okNames_eq, okNms, obNms, namesOK_nil, namesOK_cons, freeOK_nil, freeOK_cons, D.frz, frzL, Ob.frz, frzO, St.frz, forgetLs, dropObs, putObs, hcall, freeOf, keeps, baseN, shD, isShift, shMax, k_bad, VCopsG, frz_nil, actx, actc, cnum, St.frzT, St.opnT, St.clsT, D.opn, opnL, Ob.opn, opnO]
  · have hd : rs.take most.toNat = rs.take i := by
      by_cases hc : i < rs.length
      · have : most.toNat = i := by omega
        rw [this]
      · rw [List.take_of_length_le (by omega), List.take_of_length_le (by omega)]
    have hcond : (i : Int) < rs.length → ¬ (i : Int) < most := fun q => by omega
    have hd2 : recsD ((rs.take most.toNat).map (mkRec S)) = .fz 8 (((rs.take i).map (mkRec S)).map recC) := by rw [hd]; rfl
    rw [← List.map_take, hd2]
    simp only
    generalize ((rs.take i).map (mkRec S)).map recC = acc
    by_cases hc : (i : Int) < rs.length
    · have := hcond hc
      simp (implicitDefEqProofs := false) [k_seq, k_block, k_skip, k_reg, k_alt, k_cond, k_exit, k_ret, kf_nil, kf_seq_n, kf_seq_e, kf_seq_r, kf_blk_n, kf_blk_e, kf_blk_r, kf_lp_n, kf_lp_e, kf_lp_r, kf_cut_n, kf_cut_e, kf_cut_r, mkTm, VCops, VCalt, istep, act, gd, applyE, wrapD, Opd.ev, get_mk, set_mk, set_mk0, tget16, tset16, tget_0, tset_0, tget_1, tset_1, tget_2, tset_2, tget_3, tset_3, tget_4, tset_4, tget_5, tset_5, tget_6, tset_6, tget_7, tset_7, tget_8, tset_8, tget_9, tset_9, tget_10, tset_10, tget_11, tset_11, tget_12, tset_12, tget_13, tset_13, tget_14, tset_14, tget_15, tset_15, D.un, D.gu, gus, IOp.opds, binD, fnPost, getRes, IRes.get, oneRes, D.out, outL, D.clos, closL, D.norow, norowL, D.lv, lvL, D.scal, scalL, D.cells, D.cell, D.cell', St.lk, obPut, obDel, List.lookup, cut, pickD, splice, fillParts, fillRows, elem_cons, newsOf, D.pl, D.forget, forgetL, Ob.forget, forgetO, eqCells, sg, leD, leDL, leOb, apartK, St.le, D.keys, keysL, D.rows, rowsL, obKeys, addKeys, reach, pos, D.ren, renL, Ob.ren, inM, outM, inObs, outObs, goneK, apartN, okNames_eq, okNms, obNms, namesOK_nil, namesOK_cons, freeOK_nil, freeOK_cons, D.frz, frzL, Ob.frz, frzO, St.frz, forgetLs, dropObs, putObs, hcall, freeOf, keeps, baseN, shD, isShift, shMax, k_bad, VCopsG, frz_nil, actx, actc, cnum, St.frzT, St.opnT, St.clsT, D.opn, opnL, Ob.opn, opnO, ir_reredoskeep_records_b0, ir_reredoskeep_records_r1, hc, this, recsD]
    · simp (implicitDefEqProofs := false) [k_seq, k_block, k_skip, k_reg, k_alt, k_cond, k_exit, k_ret, kf_nil, kf_seq_n, kf_seq_e, kf_seq_r, kf_blk_n, kf_blk_e, kf_blk_r, kf_lp_n, kf_lp_e, kf_lp_r, kf_cut_n, kf_cut_e, kf_cut_r, mkTm, VCops, VCalt, istep, act, gd, applyE, wrapD, Opd.ev, get_mk, set_mk, set_mk0, tget16, tset16, tget_0, tset_0, tget_1, tset_1, tget_2, tset_2, tget_3, tset_3, tget_4, tset_4, tget_5, tset_5, tget_6, tset_6, tget_7, tset_7, tget_8, tset_8, tget_9, tset_9, tget_10, tset_10, tget_11, tset_11, tget_12, tset_12, tget_13, tset_13, tget_14, tset_14, tget_15, tset_15, D.un, D.gu, gus, IOp.opds, binD, fnPost, getRes, IRes.get, oneRes, D.out, outL, D.clos, closL, D.norow, norowL, D.lv, lvL, D.scal, scalL, D.cells, D.cell, D.cell', St.lk, obPut, obDel, List.lookup, cut, pickD, splice, fillParts, fillRows, elem_cons, newsOf, D.pl, D.forget, forgetL, Ob.forget, forgetO, eqCells, sg, leD, leDL, leOb, apartK, St.le, D.keys, keysL, D.rows, rowsL, obKeys, addKeys, reach, pos, D.ren, renL, Ob.ren, inM, outM, inObs, outObs, goneK, apartN, okNames_eq, okNms, obNms, namesOK_nil, namesOK_cons, freeOK_nil, freeOK_cons, D.frz, frzL, Ob.frz, frzO, St.frz, forgetLs, dropObs, putObs, hcall, freeOf, keeps, baseN, shD, isShift, shMax, k_bad, VCopsG, frz_nil, actx, actc, cnum, St.frzT, St.opnT, St.clsT, D.opn, opnL, Ob.opn, opnO, ir_reredoskeep_records_b0, ir_reredoskeep_records_r1, hc, recsD]

set_option maxRecDepth 100000 in
set_option maxHeartbeats 4000000 in
theorem v_taped (h1 : T.sp n_tape_Append = some sp_Append) : Verified T ir_reredoskeep_taped sp_taped := by
  refine Verified.mk ?_
  rintro ds ⟨x, rs, rfl, hx, hS0, hS4, hg, hlen⟩
  obtain ⟨S, ls, p, rfl⟩ := isCfg_cfgD hx
  simp only [sp_taped, cfgOf_cfgD, recsOf_recsD] at hS0 hS4 hg ⊢
  have hx1 : sp_Append.hx = none := rfl
  simp (implicitDefEqProofs := false) [k_seq, k_block, k_skip, k_reg, k_alt, k_cond, k_exit, k_ret, kf_nil, kf_seq_n, kf_seq_e, kf_seq_r, kf_blk_n, kf_blk_e, kf_blk_r, kf_lp_n, kf_lp_e, kf_lp_r, kf_cut_n, kf_cut_e, kf_cut_r, mkTm, VCops, VCalt, istep, act, gd, applyE, wrapD, Opd.ev, get_mk, set_mk, set_mk0, tget16, tset16, tget_0, tset_0, tget_1, tset_1, tget_2, tset_2, tget_3, tset_3, tget_4, tset_4, tget_5, tset_5, tget_6, tset_6, tget_7, tset_7, tget_8, tset_8, tget_9, tset_9, tget_10, tset_10, tget_11, tset_11, tget_12, tset_12, tget_13, tset_13, tget_14, tset_14, tget_15, tset_15, D.un, D.gu, gus, IOp.opds, binD, fnPost, getRes, IRes.get, oneRes, D.out, outL, D.clos, closL, D.norow, norowL, D.lv, lvL, D.scal, scalL, D.cells, D.cell, D.cell', St.lk, obPut, obDel, List.lookup, cut, pickD, splice, fillParts, fillRows, elem_cons, newsOf, D.pl, D.forget, forgetL, Ob.forget, forgetO, eqCells, sg, leD, leDL, leOb, apartK, St.le, D.keys, keysL, D.rows, rowsL, obKeys, addKeys, reach, pos, D.ren, renL, Ob.ren, inM, outM, inObs, outObs, goneK, apartN, okNames_eq, okNms, obNms, namesOK_nil, namesOK_cons, freeOK_nil, freeOK_cons, D.frz, frzL, Ob.frz, frzO, St.frz, forgetLs, dropObs, putObs, hcall, freeOf, keeps, baseN, shD, isShift, shMax, k_bad, VCopsG, frz_nil, actx, actc, cnum, St.frzT, St.opnT, St.clsT, D.opn, opnL, Ob.opn, opnO, ir_reredoskeep_taped, cfgD, recsD]
  refine k_loop (ι := {i : Nat // i ≤ rs.length}) (fun x => ⟨mkTm 39 0 [(2, .own 2 0), (4, .own 4 0), (6, .own 6 0), (11, .fz 8 (rs.map recC)), (12, .int .i64 rs.length), (13, .int .i64 x.1)], [(2, .box [.int .i64 S, .fz 2 (ls.map lbc), .int .i64 p]), (4, .box [.nl 1, .int .i64 0]), (6, .box [.fz 1 ((allT (rs.take x.1)).map b8), .int .i64 0])]⟩)
    (fun x => rs.length - x.1) [] ⟨0, by omega⟩ (by simp [k_seq, k_block, k_skip, k_reg, k_alt, k_cond, k_exit, k_ret, kf_nil, kf_seq_n, kf_seq_e, kf_seq_r, kf_blk_n, kf_blk_e, kf_blk_r, kf_lp_n, kf_lp_e, kf_lp_r, kf_cut_n, kf_cut_e, kf_cut_r, mkTm, VCops, VCalt, istep, act, gd, applyE, wrapD, Opd.ev, get_mk, set_mk, set_mk0, tget16, tset16, tget_0, tset_0, tget_1, tset_1, tget_2, tset_2, tget_3, tset_3, tget_4, tset_4, tget_5, tset_5, tget_6, tset_6, tget_7, tset_7, tget_8, tset_8, tget_9, tset_9, tget_10, tset_10, tget_11, tset_11, tget_12, tset_12, tget_13, tset_13, tget_14, tset_14, tget_15, tset_15, D.un, D.gu, gus, IOp.opds, binD, fnPost, getRes, IRes.get, oneRes, D.out, outL, D.clos, closL, D.norow, norowL, D.lv, lvL, D.scal, scalL, D.cells, D.cell, D.cell', St.lk, obPut, obDel, List.lookup, cut, pickD, splice, fillParts, fillRows, elem_cons, newsOf, D.pl, D.forget, forgetL, Ob.forget, forgetO, eqCells, sg, leD, leDL, leOb, apartK, St.le, D.keys, keysL, D.rows, rowsL, obKeys, addKeys, reach, pos, D.ren, renL, Ob.ren, inM, outM, inObs, outObs, goneK, apartN, okNames_eq, okNms, obNms, namesOK_nil, namesOK_cons, freeOK_nil, freeOK_cons, D.frz, frzL, Ob.frz, frzO, St.frz, forgetLs, dropObs, putObs, hcall, freeOf, keeps, baseN, shD, isShift, shMax, k_bad, VCopsG, frz_nil, actx, actc, cnum, St.frzT, St.opnT, St.clsT, D.opn, opnL, Ob.opn, opnO, allT]) ?_
  rintro ⟨i, hi⟩ P hP
  by_cases h : i < rs.length
  · have hil : (i : Int) < rs.length := by omega
    have hel := elem_map recC rs i h
    have hgr := hg _ (List.getElem_mem h)
    have ht : allT (rs.take (i + 1)) = allT (rs.take i) ++ recT1 rs[i] := by
      rw [(List.take_append_getElem h).symm, allT_append, allT_one]
    generalize rs[i] = r at hel hgr ht
    have hbl := length_allT (rs.take i) fun r hr => (good_enc (hg r (List.mem_of_mem_take hr)) hS4 hS0).1
    rw [List.length_take] at hbl
    generalize allT (rs.take i) = bs at hbl ht ⊢
    obtain ⟨he, hs⟩ := good_enc hgr hS4 hS0
    have hF := app_F (bs := bs) (n := 0) (by simp [badT]; omega) hgr (by omega)
    have hp := app_pre (n := 0) (bs := bs) (r := r) hx hS4 hS0 (by omega) (by omega)
    have hle : ¬ ((bs ++ recT1 r).length ≤ bs.length) := by rw [List.length_append]; simp only [recT1, List.length_cons]; omega
    have hle' : ¬ (((bs ++ recT1 r).length : Int) ≤ bs.length) := by omega
    generalize bs ++ recT1 r = bs' at hF ht hle hle'
    clear hgr he
    obtain ⟨kind, site, n, key, value, ask, yes, sites⟩ := r
    simp only [recC] at hF hp hel
    simp (implicitDefEqProofs := false) [k_seq, k_block, k_skip, k_reg, k_alt, k_cond, k_exit, k_ret, kf_nil, kf_seq_n, kf_seq_e, kf_seq_r, kf_blk_n, kf_blk_e, kf_blk_r, kf_lp_n, kf_lp_e, kf_lp_r, kf_cut_n, kf_cut_e, kf_cut_r, mkTm, VCops, VCalt, istep, act, gd, applyE, wrapD, Opd.ev, get_mk, set_mk, set_mk0, tget16, tset16, tget_0, tset_0, tget_1, tset_1, tget_2, tset_2, tget_3, tset_3, tget_4, tset_4, tget_5, tset_5, tget_6, tset_6, tget_7, tset_7, tget_8, tset_8, tget_9, tset_9, tget_10, tset_10, tget_11, tset_11, tget_12, tset_12, tget_13, tset_13, tget_14, tset_14, tget_15, tset_15, D.un, D.gu, gus, IOp.opds, binD, fnPost, getRes, IRes.get, oneRes, D.out, outL, D.clos, closL, D.norow, norowL, D.lv, lvL, D.scal, scalL, D.cells, D.cell, D.cell', St.lk, obPut, obDel, List.lookup, cut, pickD, splice, fillParts, fillRows, elem_cons, newsOf, D.pl, D.forget, forgetL, Ob.forget, forgetO, eqCells, sg, leD, leDL, leOb, apartK, St.le, D.keys, keysL, D.rows, rowsL, obKeys, addKeys, reach, pos, D.ren, renL, Ob.ren, inM, outM, inObs, outObs, goneK, apartN, okNames_eq, okNms, obNms, namesOK_nil, namesOK_cons, freeOK_nil, freeOK_cons, D.frz, frzL, Ob.frz, frzO, St.frz, forgetLs, dropObs, putObs, hcall, freeOf, keeps, baseN, shD, isShift, shMax, k_bad, VCopsG, frz_nil, actx, actc, cnum, St.frzT, St.opnT, St.clsT, D.opn, opnL, Ob.opn, opnO, ir_reredoskeep_taped_b0, hil, h, hel, h1, hx1, hp, hF, hle']
    refine ⟨by simp only [inR]; omega, hP _ [] ⟨i + 1, by omega⟩ ?_ (by simp only; omega)⟩
    simp (implicitDefEqProofs := false) [k_seq, k_block, k_skip, k_reg, k_alt, k_cond, k_exit, k_ret, kf_nil, kf_seq_n, kf_seq_e, kf_seq_r, kf_blk_n, kf_blk_e, kf_blk_r, kf_lp_n, kf_lp_e, kf_lp_r, kf_cut_n, kf_cut_e, kf_cut_r, mkTm, VCops, VCalt, istep, act, gd, applyE, wrapD, Opd.ev, get_mk, set_mk, set_mk0, tget16, tset16, tget_0, tset_0, tget_1, tset_1, tget_2, tset_2, tget_3, tset_3, tget_4, tset_4, tget_5, tset_5, tget_6, tset_6, tget_7, tset_7, tget_8, tset_8, tget_9, tset_9, tget_10, tset_10, tget_11, tset_11, tget_12, tset_12, tget_13, tset_13, tget_14, tset_14, tget_15, tset_15, D.un, D.gu, gus, IOp.opds, binD, fnPost, getRes, IRes.get, oneRes, D.out, outL, D.clos, closL, D.norow, norowL, D.lv, lvL, D.scal, scalL, D.cells, D.cell, D.cell', St.lk, obPut, obDel, List.lookup, cut, pickD, splice, fillParts, fillRows, elem_cons, newsOf, D.pl, D.forget, forgetL, Ob.forget, forgetO, eqCells, sg, leD, leDL, leOb, apartK, St.le, D.keys, keysL, D.rows, rowsL, obKeys, addKeys, reach, pos, D.ren, renL, Ob.ren, inM, outM, inObs, outObs, goneK, apartN, okNames_eq, okNms, obNms, namesOK_nil, namesOK_cons, freeOK_nil, freeOK_cons, D.frz, frzL, Ob.frz, frzO, St.frz, forgetLs, dropObs, putObs, hcall, freeOf, keeps, baseN, shD, isShift, shMax, k_bad, VCopsG, frz_nil, actx, actc, cnum, St.frzT, St.opnT, St.clsT, D.opn, opnL, Ob.opn, opnO, ht]
  · have hil : i = rs.length := by omega
    subst hil
    simp (implicitDefEqProofs := false) [k_seq, k_block, k_skip, k_reg, k_alt, k_cond, k_exit, k_ret, kf_nil, kf_seq_n, kf_seq_e, kf_seq_r, kf_blk_n, kf_blk_e, kf_blk_r, kf_lp_n, kf_lp_e, kf_lp_r, kf_cut_n, kf_cut_e, kf_cut_r, mkTm, VCops, VCalt, istep, act, gd, applyE, wrapD, Opd.ev, get_mk, set_mk, set_mk0, tget16, tset16, tget_0, tset_0, tget_1, tset_1, tget_2, tset_2, tget_3, tset_3, tget_4, tset_4, tget_5, tset_5, tget_6, tset_6, tget_7, tset_7, tget_8, tset_8, tget_9, tset_9, tget_10, tset_10, tget_11, tset_11, tget_12, tset_12, tget_13, tset_13, tget_14, tset_14, tget_15, tset_15, D.un, D.gu, gus, IOp.opds, binD, fnPost, getRes, IRes.get, oneRes, D.out, outL, D.clos, closL, D.norow, norowL, D.lv, lvL, D.scal, scalL, D.cells, D.cell, D.cell', St.lk, obPut, obDel, List.lookup, cut, pickD, splice, fillParts, fillRows, elem_cons, newsOf, D.pl, D.forget, forgetL, Ob.forget, forgetO, eqCells, sg, leD, leDL, leOb, apartK, St.le, D.keys, keysL, D.rows, rowsL, obKeys, addKeys, reach, pos, D.ren, renL, Ob.ren, inM, outM, inObs, outObs, goneK, apartN, okNames_eq, okNms, obNms, namesOK_nil, namesOK_cons, freeOK_nil, freeOK_cons, D.frz, frzL, Ob.frz, frzO, St.frz, forgetLs, dropObs, putObs, hcall, freeOf, keeps, baseN, shD, isShift, shMax, k_bad, VCopsG, frz_nil, actx, actc, cnum, St.frzT, St.opnT, St.clsT, D.opn, opnL, Ob.opn, opnO, ir_reredoskeep_taped_b0, ir_reredoskeep_taped_r1, tapD, tapC]

set_option maxRecDepth 100000 in
set_option maxHeartbeats 4000000 in
theorem v_begins (h1 : T.sp n_reredoskeep_sameRecord = some sp_sameRecord) : Verified T ir_reredoskeep_begins sp_begins := by
  refine Verified.mk ?_
  rintro ds ⟨a, b, rfl, ha, hb, hla, hlb⟩
  have hx : sp_sameRecord.hx = none := rfl
  have hF : ∀ r s : Rc, sp_sameRecord.F [.agg (recC r), .agg (recC s)] = .bool (decide (r = s)) := fun r s => by
    have e1 : D.agg (recC r) = recD r := rfl
    have e2 : D.agg (recC s) = recD s := rfl
    simp only [sp_sameRecord, e1, e2, recOf_recD]
  have hP : ∀ r s : Rc, r.sites.length ≤ 1000000 → s.sites.length ≤ 1000000 → sp_sameRecord.pre [.agg (recC r), .agg (recC s)] = True := fun r s h g => by
    simp only [sp_sameRecord, eq_iff_iff, iff_true]; exact ⟨r, s, rfl, h, g⟩
  simp only [sp_begins, recsOf_recsD]
  simp (implicitDefEqProofs := false) [k_seq, k_block, k_skip, k_reg, k_alt, k_cond, k_exit, k_ret, kf_nil, kf_seq_n, kf_seq_e, kf_seq_r, kf_blk_n, kf_blk_e, kf_blk_r, kf_lp_n, kf_lp_e, kf_lp_r, kf_cut_n, kf_cut_e, kf_cut_r, mkTm, VCops, VCalt, istep, act, gd, applyE, wrapD, Opd.ev, get_mk, set_mk, set_mk0, tget16, tset16, tget_0, tset_0, tget_1, tset_1, tget_2, tset_2, tget_3, tset_3, tget_4, tset_4, tget_5, tset_5, tget_6, tset_6, tget_7, tset_7, tget_8, tset_8, tget_9, tset_9, tget_10, tset_10, tget_11, tset_11, tget_12, tset_12, tget_13, tset_13, tget_14, tset_14, tget_15, tset_15, D.un, D.gu, gus, IOp.opds, binD, fnPost, getRes, IRes.get, oneRes, D.out, outL, D.clos, closL, D.norow, norowL, D.lv, lvL, D.scal, scalL, D.cells, D.cell, D.cell', St.lk, obPut, obDel, List.lookup, cut, pickD, splice, fillParts, fillRows, elem_cons, newsOf, D.pl, D.forget, forgetL, Ob.forget, forgetO, eqCells, sg, leD, leDL, leOb, apartK, St.le, D.keys, keysL, D.rows, rowsL, obKeys, addKeys, reach, pos, D.ren, renL, Ob.ren, inM, outM, inObs, outObs, goneK, apartN, okNames_eq, okNms, obNms, namesOK_nil, namesOK_cons, freeOK_nil, freeOK_cons, D.frz, frzL, Ob.frz, frzO, St.frz, forgetLs, dropObs, putObs, hcall, freeOf, keeps, baseN, shD, isShift, shMax, k_bad, VCopsG, frz_nil, actx, actc, cnum, St.frzT, St.opnT, St.clsT, D.opn, opnL, Ob.opn, opnO, ir_reredoskeep_begins, recsD]
  refine ⟨fun q e => ?_, fun q => ?_⟩
  · have := congrArg List.length e
    rw [List.length_take] at this
    omega
  refine k_loop (ι := {i : Nat // i ≤ a.length ∧ b.take i = a.take i}) (fun x => ⟨mkTm 27 0 [(0, .fz 8 (a.map recC)), (1, .fz 8 (b.map recC)), (5, .int .i64 x.1)], []⟩)
    (fun x => a.length - x.1) [] ⟨0, by simp⟩ (by simp [k_seq, k_block, k_skip, k_reg, k_alt, k_cond, k_exit, k_ret, kf_nil, kf_seq_n, kf_seq_e, kf_seq_r, kf_blk_n, kf_blk_e, kf_blk_r, kf_lp_n, kf_lp_e, kf_lp_r, kf_cut_n, kf_cut_e, kf_cut_r, mkTm, VCops, VCalt, istep, act, gd, applyE, wrapD, Opd.ev, get_mk, set_mk, set_mk0, tget16, tset16, tget_0, tset_0, tget_1, tset_1, tget_2, tset_2, tget_3, tset_3, tget_4, tset_4, tget_5, tset_5, tget_6, tset_6, tget_7, tset_7, tget_8, tset_8, tget_9, tset_9, tget_10, tset_10, tget_11, tset_11, tget_12, tset_12, tget_13, tset_13, tget_14, tset_14, tget_15, tset_15, D.un, D.gu, gus, IOp.opds, binD, fnPost, getRes, IRes.get, oneRes, D.out, outL, D.clos, closL, D.norow, norowL, D.lv, lvL, D.scal, scalL, D.cells, D.cell, D.cell', St.lk, obPut, obDel, List.lookup, cut, pickD, splice, fillParts, fillRows, elem_cons, newsOf, D.pl, D.forget, forgetL, Ob.forget, forgetO, eqCells, sg, leD, leDL, leOb, apartK, St.le, D.keys, keysL, D.rows, rowsL, obKeys, addKeys, reach, pos, D.ren, renL, Ob.ren, inM, outM, inObs, outObs, goneK, apartN, okNames_eq, okNms, obNms, namesOK_nil, namesOK_cons, freeOK_nil, freeOK_cons, D.frz, frzL, Ob.frz, frzO, St.frz, forgetLs, dropObs, putObs, hcall, freeOf, keeps, baseN, shD, isShift, shMax, k_bad, VCopsG, frz_nil, actx, actc, cnum, St.frzT, St.opnT, St.clsT, D.opn, opnL, Ob.opn, opnO]) ?_
  rintro ⟨i, hi, he⟩ Q hQ
  by_cases h : i < a.length
  · have h' : i < b.length := by omega
    have hi1 : (i : Int) < a.length := by omega
    have hi2 : (i : Int) < b.length := by omega
    have e1 := elem_map recC a i h
    have e2 := elem_map recC b i h'
    have t1 : a.take (i + 1) = a.take i ++ [a[i]] := (List.take_append_getElem h).symm
    have t2 : b.take (i + 1) = b.take i ++ [b[i]] := (List.take_append_getElem h').symm
    have hp := hP _ _ (ha _ (List.getElem_mem h)) (hb _ (List.getElem_mem h'))
    have hf := hF a[i] b[i]
    have hne : a[i] ≠ b[i] → ¬ (b.take a.length = a) := fun hn hh => by
      have : (b.take a.length)[i]? = a[i]? := by rw [hh]
      rw [List.getElem?_take_of_lt h, List.getElem?_eq_getElem h', List.getElem?_eq_getElem h] at this
      exact hn (Option.some.inj this).symm
    have hstep : a[i] = b[i] → b.take (i + 1) = a.take (i + 1) := fun e => by rw [t1, t2, he, e]
    generalize a[i] = r at e1 hp hf hne hstep
    generalize b[i] = s at e2 hp hf hne hstep
    clear t1 t2 hP hF
    by_cases hrs : r = s
    · subst hrs
      simp only [decide_true] at hf
      obtain ⟨kind, site, n, key, value, ask, yes, sites⟩ := r
      simp only [recC] at e1 e2 hp hf
      simp (implicitDefEqProofs := false) [k_seq, k_block, k_skip, k_reg, k_alt, k_cond, k_exit, k_ret, kf_nil, kf_seq_n, kf_seq_e, kf_seq_r, kf_blk_n, kf_blk_e, kf_blk_r, kf_lp_n, kf_lp_e, kf_lp_r, kf_cut_n, kf_cut_e, kf_cut_r, mkTm, VCops, VCalt, istep, act, gd, applyE, wrapD, Opd.ev, get_mk, set_mk, set_mk0, tget16, tset16, tget_0, tset_0, tget_1, tset_1, tget_2, tset_2, tget_3, tset_3, tget_4, tset_4, tget_5, tset_5, tget_6, tset_6, tget_7, tset_7, tget_8, tset_8, tget_9, tset_9, tget_10, tset_10, tget_11, tset_11, tget_12, tset_12, tget_13, tset_13, tget_14, tset_14, tget_15, tset_15, D.un, D.gu, gus, IOp.opds, binD, fnPost, getRes, IRes.get, oneRes, D.out, outL, D.clos, closL, D.norow, norowL, D.lv, lvL, D.scal, scalL, D.cells, D.cell, D.cell', St.lk, obPut, obDel, List.lookup, cut, pickD, splice, fillParts, fillRows, elem_cons, newsOf, D.pl, D.forget, forgetL, Ob.forget, forgetO, eqCells, sg, leD, leDL, leOb, apartK, St.le, D.keys, keysL, D.rows, rowsL, obKeys, addKeys, reach, pos, D.ren, renL, Ob.ren, inM, outM, inObs, outObs, goneK, apartN, okNames_eq, okNms, obNms, namesOK_nil, namesOK_cons, freeOK_nil, freeOK_cons, D.frz, frzL, Ob.frz, frzO, St.frz, forgetLs, dropObs, putObs, hcall, freeOf, keeps, baseN, shD, isShift, shMax, k_bad, VCopsG, frz_nil, actx, actc, cnum, St.frzT, St.opnT, St.clsT, D.opn, opnL, Ob.opn, opnO, ir_reredoskeep_begins_b0, hi1, hi2, h, h', e1, e2, h1, hx, hp, hf]
      refine ⟨by simp only [inR]; omega, hQ _ [] ⟨i + 1, by omega, hstep rfl⟩ (by simp [k_seq, k_block, k_skip, k_reg, k_alt, k_cond, k_exit, k_ret, kf_nil, kf_seq_n, kf_seq_e, kf_seq_r, kf_blk_n, kf_blk_e, kf_blk_r, kf_lp_n, kf_lp_e, kf_lp_r, kf_cut_n, kf_cut_e, kf_cut_r, mkTm, VCops, VCalt, istep, act, gd, applyE, wrapD, Opd.ev, get_mk, set_mk, set_mk0, tget16, tset16, tget_0, tset_0, tget_1, tset_1, tget_2, tset_2, tget_3, tset_3, tget_4, tset_4, tget_5, tset_5, tget_6, tset_6, tget_7, tset_7, tget_8, tset_8, tget_9, tset_9, tget_10, tset_10, tget_11, tset_11, tget_12, tset_12, tget_13, tset_13, tget_14, tset_14, tget_15, tset_15, D.un, D.gu, gus, IOp.opds, binD, fnPost, getRes, IRes.get, oneRes, D.out, outL, D.clos, closL, D.norow, norowL, D.lv, lvL, D.scal, scalL, D.cells, D.cell, D.cell', St.lk, obPut, obDel, List.lookup, cut, pickD, splice, fillParts, fillRows, elem_cons, newsOf, D.pl, D.forget, forgetL, Ob.forget, forgetO, eqCells, sg, leD, leDL, leOb, apartK, St.le, D.keys, keysL, D.rows, rowsL, obKeys, addKeys, reach, pos, D.ren, renL, Ob.ren, inM, outM, inObs, outObs, goneK, apartN, okNames_eq, okNms, obNms, namesOK_nil, namesOK_cons, freeOK_nil, freeOK_cons, D.frz, frzL, Ob.frz, frzO, St.frz, forgetLs, dropObs, putObs, hcall, freeOf, keeps, baseN, shD, isShift, shMax, k_bad, VCopsG, frz_nil, actx, actc, cnum, St.frzT, St.opnT, St.clsT, D.opn, opnL, Ob.opn, opnO]) (by simp only; omega)⟩
    · have hno := hne hrs
      rw [decide_eq_false hrs] at hf
      clear hne hstep
      obtain ⟨kind, site, n, key, value, ask, yes, sites⟩ := r
      obtain ⟨kind', site', n', key', value', ask', yes', sites'⟩ := s
      simp only [recC] at e1 e2 hp hf
      simp (implicitDefEqProofs := false) [k_seq, k_block, k_skip, k_reg, k_alt, k_cond, k_exit, k_ret, kf_nil, kf_seq_n, kf_seq_e, kf_seq_r, kf_blk_n, kf_blk_e, kf_blk_r, kf_lp_n, kf_lp_e, kf_lp_r, kf_cut_n, kf_cut_e, kf_cut_r, mkTm, VCops, VCalt, istep, act, gd, applyE, wrapD, Opd.ev, get_mk, set_mk, set_mk0, tget16, tset16, tget_0, tset_0, tget_1, tset_1, tget_2, tset_2, tget_3, tset_3, tget_4, tset_4, tget_5, tset_5, tget_6, tset_6, tget_7, tset_7, tget_8, tset_8, tget_9, tset_9, tget_10, tset_10, tget_11, tset_11, tget_12, tset_12, tget_13, tset_13, tget_14, tset_14, tget_15, tset_15, D.un, D.gu, gus, IOp.opds, binD, fnPost, getRes, IRes.get, oneRes, D.out, outL, D.clos, closL, D.norow, norowL, D.lv, lvL, D.scal, scalL, D.cells, D.cell, D.cell', St.lk, obPut, obDel, List.lookup, cut, pickD, splice, fillParts, fillRows, elem_cons, newsOf, D.pl, D.forget, forgetL, Ob.forget, forgetO, eqCells, sg, leD, leDL, leOb, apartK, St.le, D.keys, keysL, D.rows, rowsL, obKeys, addKeys, reach, pos, D.ren, renL, Ob.ren, inM, outM, inObs, outObs, goneK, apartN, okNames_eq, okNms, obNms, namesOK_nil, namesOK_cons, freeOK_nil, freeOK_cons, D.frz, frzL, Ob.frz, frzO, St.frz, forgetLs, dropObs, putObs, hcall, freeOf, keeps, baseN, shD, isShift, shMax, k_bad, VCopsG, frz_nil, actx, actc, cnum, St.frzT, St.opnT, St.clsT, D.opn, opnL, Ob.opn, opnO, ir_reredoskeep_begins_b0, hi1, hi2, h, h', e1, e2, h1, hx, hp, hf, hno]
  · have hil : i = a.length := by omega
    subst hil
    rw [List.take_length] at he
    simp (implicitDefEqProofs := false) [k_seq, k_block, k_skip, k_reg, k_alt, k_cond, k_exit, k_ret, kf_nil, kf_seq_n, kf_seq_e, kf_seq_r, kf_blk_n, kf_blk_e, kf_blk_r, kf_lp_n, kf_lp_e, kf_lp_r, kf_cut_n, kf_cut_e, kf_cut_r, mkTm, VCops, VCalt, istep, act, gd, applyE, wrapD, Opd.ev, get_mk, set_mk, set_mk0, tget16, tset16, tget_0, tset_0, tget_1, tset_1, tget_2, tset_2, tget_3, tset_3, tget_4, tset_4, tget_5, tset_5, tget_6, tset_6, tget_7, tset_7, tget_8, tset_8, tget_9, tset_9, tget_10, tset_10, tget_11, tset_11, tget_12, tset_12, tget_13, tset_13, tget_14, tset_14, tget_15, tset_15, D.un, D.gu, gus, IOp.opds, binD, fnPost, getRes, IRes.get, oneRes, D.out, outL, D.clos, closL, D.norow, norowL, D.lv, lvL, D.scal, scalL, D.cells, D.cell, D.cell', St.lk, obPut, obDel, List.lookup, cut, pickD, splice, fillParts, fillRows, elem_cons, newsOf, D.pl, D.forget, forgetL, Ob.forget, forgetO, eqCells, sg, leD, leDL, leOb, apartK, St.le, D.keys, keysL, D.rows, rowsL, obKeys, addKeys, reach, pos, D.ren, renL, Ob.ren, inM, outM, inObs, outObs, goneK, apartN, okNames_eq, okNms, obNms, namesOK_nil, namesOK_cons, freeOK_nil, freeOK_cons, D.frz, frzL, Ob.frz, frzO, St.frz, forgetLs, dropObs, putObs, hcall, freeOf, keeps, baseN, shD, isShift, shMax, k_bad, VCopsG, frz_nil, actx, actc, cnum, St.frzT, St.opnT, St.clsT, D.opn, opnL, Ob.opn, opnO, ir_reredoskeep_begins_b0, ir_reredoskeep_begins_r1, he]

set_option maxRecDepth 100000 in
set_option maxHeartbeats 4000000 in
theorem v_Recover (h1 : T.sp n_tape_open = some sp_open) (h2 : T.sp n_wire_DecodeRecord = some sp_DecodeRecord) : Verified T ir_tape_Recover sp_Recover := by
  refine Verified.mk ?_
  rintro ds ⟨x, bs, n, rfl, hx, hck, hby, hl⟩
  obtain ⟨S, ls, p, rfl⟩ := isCfg_cfgD hx
  simp only [sp_Recover, cfgOf_cfgD, tapOf_tapD] at hck ⊢
  have hx1 : sp_open.hx = none := rfl
  have hx2 : sp_DecodeRecord.hx = none := rfl
  by_cases hb : badT bs n = true
  · rw [if_pos hb]
    simp (implicitDefEqProofs := false) [k_seq, k_block, k_skip, k_reg, k_alt, k_cond, k_exit, k_ret, kf_nil, kf_seq_n, kf_seq_e, kf_seq_r, kf_blk_n, kf_blk_e, kf_blk_r, kf_lp_n, kf_lp_e, kf_lp_r, kf_cut_n, kf_cut_e, kf_cut_r, mkTm, VCops, VCalt, istep, act, gd, applyE, wrapD, Opd.ev, get_mk, set_mk, set_mk0, tget16, tset16, tget_0, tset_0, tget_1, tset_1, tget_2, tset_2, tget_3, tset_3, tget_4, tset_4, tget_5, tset_5, tget_6, tset_6, tget_7, tset_7, tget_8, tset_8, tget_9, tset_9, tget_10, tset_10, tget_11, tset_11, tget_12, tset_12, tget_13, tset_13, tget_14, tset_14, tget_15, tset_15, D.un, D.gu, gus, IOp.opds, binD, fnPost, getRes, IRes.get, oneRes, D.out, outL, D.clos, closL, D.norow, norowL, D.lv, lvL, D.scal, scalL, D.cells, D.cell, D.cell', St.lk, obPut, obDel, List.lookup, cut, pickD, splice, fillParts, fillRows, elem_cons, newsOf, D.pl, D.forget, forgetL, Ob.forget, forgetO, eqCells, sg, leD, leDL, leOb, apartK, St.le, D.keys, keysL, D.rows, rowsL, obKeys, addKeys, reach, pos, D.ren, renL, Ob.ren, inM, outM, inObs, outObs, goneK, apartN, okNames_eq, okNms, obNms, namesOK_nil, namesOK_cons, freeOK_nil, freeOK_cons, D.frz, frzL, Ob.frz, frzO, St.frz, forgetLs, dropObs, putObs, hcall, freeOf, keeps, baseN, shD, isShift, shMax, k_bad, VCopsG, frz_nil, actx, actc, cnum, St.frzT, St.opnT, St.clsT, D.opn, opnL, Ob.opn, opnO, ir_tape_Recover, tapD, tapC, recsD, cfgD, h1, hx1, open_pre hl, open_F' hb]
  · rw [if_neg hb]
    have hb' : badT bs n = false := by simpa using hb
    obtain ⟨b1, b2, b3⟩ := badT_false hb'
    have dP : ∀ cs : List Int, okBytes cs → cs.length ≤ 140737488355328 → sp_DecodeRecord.pre [.agg [.int .i64 S, .fz 2 (ls.map lbc), .int .i64 p], .fz 1 (cs.map b8)] = True := fun cs h g => by
      simp only [sp_DecodeRecord, eq_iff_iff, iff_true]; exact ⟨_, cs, rfl, hx, h, g⟩
    have r5 : sp_DecodeRecord.F [.agg [.int .i64 S, .fz 2 (ls.map lbc), .int .i64 p], .fz 1 []] = .tup [.agg (recC rc0), .int .i64 5] := decR_F (bs := []) (drec_nil hck)
    have r6 := dP [] (fun x hx => by simp at hx) (by simp)
    simp only [List.map_nil, recC, rc0] at r5 r6
    simp (implicitDefEqProofs := false) [k_seq, k_block, k_skip, k_reg, k_alt, k_cond, k_exit, k_ret, kf_nil, kf_seq_n, kf_seq_e, kf_seq_r, kf_blk_n, kf_blk_e, kf_blk_r, kf_lp_n, kf_lp_e, kf_lp_r, kf_cut_n, kf_cut_e, kf_cut_r, mkTm, VCops, VCalt, istep, act, gd, applyE, wrapD, Opd.ev, get_mk, set_mk, set_mk0, tget16, tset16, tget_0, tset_0, tget_1, tset_1, tget_2, tset_2, tget_3, tset_3, tget_4, tset_4, tget_5, tset_5, tget_6, tset_6, tget_7, tset_7, tget_8, tset_8, tget_9, tset_9, tget_10, tset_10, tget_11, tset_11, tget_12, tset_12, tget_13, tset_13, tget_14, tset_14, tget_15, tset_15, D.un, D.gu, gus, IOp.opds, binD, fnPost, getRes, IRes.get, oneRes, D.out, outL, D.clos, closL, D.norow, norowL, D.lv, lvL, D.scal, scalL, D.cells, D.cell, D.cell', St.lk, obPut, obDel, List.lookup, cut, pickD, splice, fillParts, fillRows, elem_cons, newsOf, D.pl, D.forget, forgetL, Ob.forget, forgetO, eqCells, sg, leD, leDL, leOb, apartK, St.le, D.keys, keysL, D.rows, rowsL, obKeys, addKeys, reach, pos, D.ren, renL, Ob.ren, inM, outM, inObs, outObs, goneK, apartN, okNames_eq, okNms, obNms, namesOK_nil, namesOK_cons, freeOK_nil, freeOK_cons, D.frz, frzL, Ob.frz, frzO, St.frz, forgetLs, dropObs, putObs, hcall, freeOf, keeps, baseN, shD, isShift, shMax, k_bad, VCopsG, frz_nil, actx, actc, cnum, St.frzT, St.opnT, St.clsT, D.opn, opnL, Ob.opn, opnO, ir_tape_Recover, tapD, tapC, recsD, cfgD, h1, h2, hx1, hx2, open_pre hl, open_F hb', r5, r6]
    generalize hR : recov S ls p bs.length bs = R
    obtain ⟨R, t⟩ := R
    simp only
    refine k_loop (ι := {x : Nat × Nat × List Rc // bs.length ≤ x.1 + x.2.1 ∧ x.2.1 ≤ bs.length ∧ x.2.2.length ≤ x.2.1 ∧ x.2.2 ++ (recov S ls p x.1 (bs.drop x.2.1)).1 = R ∧ x.2.1 + (recov S ls p x.1 (bs.drop x.2.1)).2 = t}) (fun x => ⟨mkTm 87 0 [(2, .own 2 0), (5, .own 5 0), (7, .own 7 0), (11, .row 200), (12, .int .i64 x.1.2.1)], [(2, .box [.int .i64 S, .fz 2 (ls.map lbc), .int .i64 p]), (5, .box [.nl 1, .int .i64 0]), (7, .box [.fz 1 (bs.map b8), .int .i64 n]), (200, .row 8 (x.1.2.2.map recC))]⟩)
      (fun x => x.1.1) [(200, none)] ⟨(bs.length, 0, []), by simp, by simp, by simp, by simp [hR], by simp [hR]⟩ (by simp [k_seq, k_block, k_skip, k_reg, k_alt, k_cond, k_exit, k_ret, kf_nil, kf_seq_n, kf_seq_e, kf_seq_r, kf_blk_n, kf_blk_e, kf_blk_r, kf_lp_n, kf_lp_e, kf_lp_r, kf_cut_n, kf_cut_e, kf_cut_r, mkTm, VCops, VCalt, istep, act, gd, applyE, wrapD, Opd.ev, get_mk, set_mk, set_mk0, tget16, tset16, tget_0, tset_0, tget_1, tset_1, tget_2, tset_2, tget_3, tset_3, tget_4, tset_4, tget_5, tset_5, tget_6, tset_6, tget_7, tset_7, tget_8, tset_8, tget_9, tset_9, tget_10, tset_10, tget_11, tset_11, tget_12, tset_12, tget_13, tset_13, tget_14, tset_14, tget_15, tset_15, D.un, D.gu, gus, IOp.opds, binD, fnPost, getRes, IRes.get, oneRes, D.out, outL, D.clos, closL, D.norow, norowL, D.lv, lvL, D.scal, scalL, D.cells, D.cell, D.cell', St.lk, obPut, obDel, List.lookup, cut, pickD, splice, fillParts, fillRows, elem_cons, newsOf, D.pl, D.forget, forgetL, Ob.forget, forgetO, eqCells, sg, leD, leDL, leOb, apartK, St.le, D.keys, keysL, D.rows, rowsL, obKeys, addKeys, reach, pos, D.ren, renL, Ob.ren, inM, outM, inObs, outObs, goneK, apartN, okNames_eq, okNms, obNms, namesOK_nil, namesOK_cons, freeOK_nil, freeOK_cons, D.frz, frzL, Ob.frz, frzO, St.frz, forgetLs, dropObs, putObs, hcall, freeOf, keeps, baseN, shD, isShift, shMax, k_bad, VCopsG, frz_nil, actx, actc, cnum, St.frzT, St.opnT, St.clsT, D.opn, opnL, Ob.opn, opnO]) ?_
    rintro ⟨⟨k, at', acc⟩, hk, ha, hac, he1, he2⟩ P hP
    simp only at hk ha hac he1 he2
    by_cases h : at' < bs.length
    · have hil : (at' : Int) < bs.length := by omega
      have hel := elem_map b8 bs at' h
      have hd : bs.drop at' = bs[at'] :: bs.drop (at' + 1) := List.drop_eq_getElem_cons h
      have hv := hby _ (List.getElem_mem h)
      obtain ⟨k, rfl⟩ : ∃ k', k = k' + 1 := ⟨k - 1, by omega⟩
      rw [hd, recov] at he1 he2
      have hdl : (bs.drop (at' + 1)).length = bs.length - (at' + 1) := List.length_drop ..
      generalize bs[at'] = v at hel hv he1 he2
      clear hd
      obtain ⟨w, rfl⟩ : ∃ w : Nat, v = w := ⟨v.toNat, by omega⟩
      rw [Int.toNat_natCast] at he1 he2
      by_cases hc : ((bs.drop (at' + 1)).length : Int) < w
      · rw [if_pos hc] at he1 he2
        simp only [List.append_nil, Nat.add_zero] at he1 he2
        subst he1 he2
        have hc' : (bs.length : Int) < at' + 1 + w := by omega
        simp (implicitDefEqProofs := false) [k_seq, k_block, k_skip, k_reg, k_alt, k_cond, k_exit, k_ret, kf_nil, kf_seq_n, kf_seq_e, kf_seq_r, kf_blk_n, kf_blk_e, kf_blk_r, kf_lp_n, kf_lp_e, kf_lp_r, kf_cut_n, kf_cut_e, kf_cut_r, mkTm, VCops, VCalt, istep, act, gd, applyE, wrapD, Opd.ev, get_mk, set_mk, set_mk0, tget16, tset16, tget_0, tset_0, tget_1, tset_1, tget_2, tset_2, tget_3, tset_3, tget_4, tset_4, tget_5, tset_5, tget_6, tset_6, tget_7, tset_7, tget_8, tset_8, tget_9, tset_9, tget_10, tset_10, tget_11, tset_11, tget_12, tset_12, tget_13, tset_13, tget_14, tset_14, tget_15, tset_15, D.un, D.gu, gus, IOp.opds, binD, fnPost, getRes, IRes.get, oneRes, D.out, outL, D.clos, closL, D.norow, norowL, D.lv, lvL, D.scal, scalL, D.cells, D.cell, D.cell', St.lk, obPut, obDel, List.lookup, cut, pickD, splice, fillParts, fillRows, elem_cons, newsOf, D.pl, D.forget, forgetL, Ob.forget, forgetO, eqCells, sg, leD, leDL, leOb, apartK, St.le, D.keys, keysL, D.rows, rowsL, obKeys, addKeys, reach, pos, D.ren, renL, Ob.ren, inM, outM, inObs, outObs, goneK, apartN, okNames_eq, okNms, obNms, namesOK_nil, namesOK_cons, freeOK_nil, freeOK_cons, D.frz, frzL, Ob.frz, frzO, St.frz, forgetLs, dropObs, putObs, hcall, freeOf, keeps, baseN, shD, isShift, shMax, k_bad, VCopsG, frz_nil, actx, actc, cnum, St.frzT, St.opnT, St.clsT, D.opn, opnL, Ob.opn, opnO, ir_tape_Recover_b0, ir_tape_Recover_r1, hil, h, hel, b8, hc']
        simp only [inR]; omega
      · rw [if_neg hc] at he1 he2
        have hc' : ¬ (bs.length : Int) < at' + 1 + w := by omega
        have htn : ((at' : Int) + 1 + w).toNat = at' + 1 + w := by omega
        have hsl : List.drop (at' + 1) (List.take (at' + 1 + w) (List.map b8 bs)) = ((bs.drop (at' + 1)).take w).map b8 := by
          rw [List.drop_take, List.map_take, List.map_drop]
          congr 1
          omega
        have hcl : ((bs.drop (at' + 1)).take w).length ≤ 140737488355328 := by rw [List.length_take, List.length_drop]; omega
        have hcb : okBytes ((bs.drop (at' + 1)).take w) := fun x hx => hby x (List.mem_of_mem_drop (List.mem_of_mem_take hx))
        have hdP := dP _ hcb hcl
        generalize hre : drec S ls p ((bs.drop (at' + 1)).take w) = re at he1 he2
        obtain ⟨r, e⟩ := re
        have hdF := decR_F hre
        rw [← hsl] at hdP hdF
        simp only at he1 he2
        clear hsl hcb dP hR hre
        by_cases hz : e = 0
        · subst hz
          rw [if_neg (by simp)] at he1 he2
          simp only [List.drop_drop] at he1 he2
          have hk2 : bs.length ≤ k + (at' + (1 + w)) := by omega
          have ha2 : at' + (1 + w) ≤ bs.length := by omega
          have he1' : (acc ++ [r]) ++ (recov S ls p k (bs.drop (at' + (1 + w)))).1 = R := by
            rw [List.append_assoc, List.singleton_append, ← he1]
            have : at' + (1 + w) = at' + 1 + w := by omega
            rw [this]
          have he2' : at' + (1 + w) + (recov S ls p k (bs.drop (at' + (1 + w)))).2 = t := by
            rw [← he2]
            have : at' + (1 + w) = at' + 1 + w := by omega
            rw [this]
            omega
          obtain ⟨kind, site, m, key, value, ask, yes, sites⟩ := r
          simp only [recC] at hdF
          simp (implicitDefEqProofs := false) [k_seq, k_block, k_skip, k_reg, k_alt, k_cond, k_exit, k_ret, kf_nil, kf_seq_n, kf_seq_e, kf_seq_r, kf_blk_n, kf_blk_e, kf_blk_r, kf_lp_n, kf_lp_e, kf_lp_r, kf_cut_n, kf_cut_e, kf_cut_r, mkTm, VCops, VCalt, istep, act, gd, applyE, wrapD, Opd.ev, get_mk, set_mk, set_mk0, tget16, tset16, tget_0, tset_0, tget_1, tset_1, tget_2, tset_2, tget_3, tset_3, tget_4, tset_4, tget_5, tset_5, tget_6, tset_6, tget_7, tset_7, tget_8, tset_8, tget_9, tset_9, tget_10, tset_10, tget_11, tset_11, tget_12, tset_12, tget_13, tset_13, tget_14, tset_14, tget_15, tset_15, D.un, D.gu, gus, IOp.opds, binD, fnPost, getRes, IRes.get, oneRes, D.out, outL, D.clos, closL, D.norow, norowL, D.lv, lvL, D.scal, scalL, D.cells, D.cell, D.cell', St.lk, obPut, obDel, List.lookup, cut, pickD, splice, fillParts, fillRows, elem_cons, newsOf, D.pl, D.forget, forgetL, Ob.forget, forgetO, eqCells, sg, leD, leDL, leOb, apartK, St.le, D.keys, keysL, D.rows, rowsL, obKeys, addKeys, reach, pos, D.ren, renL, Ob.ren, inM, outM, inObs, outObs, goneK, apartN, okNames_eq, okNms, obNms, namesOK_nil, namesOK_cons, freeOK_nil, freeOK_cons, D.frz, frzL, Ob.frz, frzO, St.frz, forgetLs, dropObs, putObs, hcall, freeOf, keeps, baseN, shD, isShift, shMax, k_bad, VCopsG, frz_nil, actx, actc, cnum, St.frzT, St.opnT, St.clsT, D.opn, opnL, Ob.opn, opnO, ir_tape_Recover_b0, hil, h, hel, b8, hc', h2, hx2, htn, hdP, hdF]
          refine ⟨by simp only [inR]; omega, by simp only [inR]; omega, by simp only [inR]; omega, by simp only [inR]; omega, by simp only [inR]; omega, by omega, by omega, by simp only [inR]; omega, by simp only [inR]; omega, ?_⟩
          exact hP _ [(200, some 71)] ⟨(k, at' + (1 + w), acc ++ [⟨kind, site, m, key, value, ask, yes, sites⟩]), hk2, ha2, by simp only [List.length_append, List.length_singleton]; omega, he1', he2'⟩ (by simp (implicitDefEqProofs := false) [k_seq, k_block, k_skip, k_reg, k_alt, k_cond, k_exit, k_ret, kf_nil, kf_seq_n, kf_seq_e, kf_seq_r, kf_blk_n, kf_blk_e, kf_blk_r, kf_lp_n, kf_lp_e, kf_lp_r, kf_cut_n, kf_cut_e, kf_cut_r, mkTm, VCops, VCalt, istep, act, gd, applyE, wrapD, Opd.ev, get_mk, set_mk, set_mk0, tget16, tset16, tget_0, tset_0, tget_1, tset_1, tget_2, tset_2, tget_3, tset_3, tget_4, tset_4, tget_5, tset_5, tget_6, tset_6, tget_7, tset_7, tget_8, tset_8, tget_9, tset_9, tget_10, tset_10, tget_11, tset_11, tget_12, tset_12, tget_13, tset_13, tget_14, tset_14, tget_15, tset_15, D.un, D.gu, gus, IOp.opds, binD, fnPost, getRes, IRes.get, oneRes, D.out, outL, D.clos, closL, D.norow, norowL, D.lv, lvL, D.scal, scalL, D.cells, D.cell, D.cell', St.lk, obPut, obDel, List.lookup, cut, pickD, splice, fillParts, fillRows, elem_cons, newsOf, D.pl, D.forget, forgetL, Ob.forget, forgetO, eqCells, sg, leD, leDL, leOb, apartK, St.le, D.keys, keysL, D.rows, rowsL, obKeys, addKeys, reach, pos, D.ren, renL, Ob.ren, inM, outM, inObs, outObs, goneK, apartN, okNames_eq, okNms, obNms, namesOK_nil, namesOK_cons, freeOK_nil, freeOK_cons, D.frz, frzL, Ob.frz, frzO, St.frz, forgetLs, dropObs, putObs, hcall, freeOf, keeps, baseN, shD, isShift, shMax, k_bad, VCopsG, frz_nil, actx, actc, cnum, St.frzT, St.opnT, St.clsT, D.opn, opnL, Ob.opn, opnO, recC]) (by simp only; omega)
        · rw [if_pos hz] at he1 he2
          simp only [List.append_nil, Nat.add_zero] at he1 he2
          subst he1 he2
          obtain ⟨kind, site, m, key, value, ask, yes, sites⟩ := r
          simp only [recC] at hdF
          simp (implicitDefEqProofs := false) [k_seq, k_block, k_skip, k_reg, k_alt, k_cond, k_exit, k_ret, kf_nil, kf_seq_n, kf_seq_e, kf_seq_r, kf_blk_n, kf_blk_e, kf_blk_r, kf_lp_n, kf_lp_e, kf_lp_r, kf_cut_n, kf_cut_e, kf_cut_r, mkTm, VCops, VCalt, istep, act, gd, applyE, wrapD, Opd.ev, get_mk, set_mk, set_mk0, tget16, tset16, tget_0, tset_0, tget_1, tset_1, tget_2, tset_2, tget_3, tset_3, tget_4, tset_4, tget_5, tset_5, tget_6, tset_6, tget_7, tset_7, tget_8, tset_8, tget_9, tset_9, tget_10, tset_10, tget_11, tset_11, tget_12, tset_12, tget_13, tset_13, tget_14, tset_14, tget_15, tset_15, D.un, D.gu, gus, IOp.opds, binD, fnPost, getRes, IRes.get, oneRes, D.out, outL, D.clos, closL, D.norow, norowL, D.lv, lvL, D.scal, scalL, D.cells, D.cell, D.cell', St.lk, obPut, obDel, List.lookup, cut, pickD, splice, fillParts, fillRows, elem_cons, newsOf, D.pl, D.forget, forgetL, Ob.forget, forgetO, eqCells, sg, leD, leDL, leOb, apartK, St.le, D.keys, keysL, D.rows, rowsL, obKeys, addKeys, reach, pos, D.ren, renL, Ob.ren, inM, outM, inObs, outObs, goneK, apartN, okNames_eq, okNms, obNms, namesOK_nil, namesOK_cons, freeOK_nil, freeOK_cons, D.frz, frzL, Ob.frz, frzO, St.frz, forgetLs, dropObs, putObs, hcall, freeOf, keeps, baseN, shD, isShift, shMax, k_bad, VCopsG, frz_nil, actx, actc, cnum, St.frzT, St.opnT, St.clsT, D.opn, opnL, Ob.opn, opnO, ir_tape_Recover_b0, ir_tape_Recover_r1, hil, h, hel, b8, hc', h2, hx2, htn, hdP, hdF, hz]
          simp only [inR]; omega
    · have hal : at' = bs.length := by omega
      subst hal
      rw [List.drop_length, recov_nil] at he1 he2
      simp only [List.append_nil, Nat.add_zero] at he1 he2
      subst he1 he2
      simp (implicitDefEqProofs := false) [k_seq, k_block, k_skip, k_reg, k_alt, k_cond, k_exit, k_ret, kf_nil, kf_seq_n, kf_seq_e, kf_seq_r, kf_blk_n, kf_blk_e, kf_blk_r, kf_lp_n, kf_lp_e, kf_lp_r, kf_cut_n, kf_cut_e, kf_cut_r, mkTm, VCops, VCalt, istep, act, gd, applyE, wrapD, Opd.ev, get_mk, set_mk, set_mk0, tget16, tset16, tget_0, tset_0, tget_1, tset_1, tget_2, tset_2, tget_3, tset_3, tget_4, tset_4, tget_5, tset_5, tget_6, tset_6, tget_7, tset_7, tget_8, tset_8, tget_9, tset_9, tget_10, tset_10, tget_11, tset_11, tget_12, tset_12, tget_13, tset_13, tget_14, tset_14, tget_15, tset_15, D.un, D.gu, gus, IOp.opds, binD, fnPost, getRes, IRes.get, oneRes, D.out, outL, D.clos, closL, D.norow, norowL, D.lv, lvL, D.scal, scalL, D.cells, D.cell, D.cell', St.lk, obPut, obDel, List.lookup, cut, pickD, splice, fillParts, fillRows, elem_cons, newsOf, D.pl, D.forget, forgetL, Ob.forget, forgetO, eqCells, sg, leD, leDL, leOb, apartK, St.le, D.keys, keysL, D.rows, rowsL, obKeys, addKeys, reach, pos, D.ren, renL, Ob.ren, inM, outM, inObs, outObs, goneK, apartN, okNames_eq, okNms, obNms, namesOK_nil, namesOK_cons, freeOK_nil, freeOK_cons, D.frz, frzL, Ob.frz, frzO, St.frz, forgetLs, dropObs, putObs, hcall, freeOf, keeps, baseN, shD, isShift, shMax, k_bad, VCopsG, frz_nil, actx, actc, cnum, St.frzT, St.opnT, St.clsT, D.opn, opnL, Ob.opn, opnO, ir_tape_Recover_b0, ir_tape_Recover_r1]
end
end Go.Proofs.YteaonhddolfppaaDoor
