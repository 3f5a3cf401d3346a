/-
  ActBare answers true on data. Conditions: those of its specification's 'pre', and that the functions that are called are what theirs say.
-/
import Derived.Test.YtehobldeogpcbaaAct8
set_option linter.unusedVariables false
set_option linter.unusedSimpArgs false
namespace Go.Proofs.Ytehobldeogpcbaa
open Go Go.Vcg

def sp_ActBare : Sp := { pre := fun ds => ∃ rs w, ds = [rawsD rs, .int .i64 w] ∧ okRaws rs ∧ inR .i64 w, F := fun _ => .bool true }
theorem lchk_F {S P : Int} {ls : List (Int × Int)} (a : Ac) (h : check S ls P = 0) : sp_LCheck.F [.agg [.int .i64 S, .fz 2 (ls.map lbc), .int .i64 P], .agg (actC a)] = .int .i64 (actE S ls.length a) := by
  have e1 : D.agg [.int .i64 S, .fz 2 (ls.map lbc), .int .i64 P] = cfgD S ls P := rfl
  have e2 : actL (actC a) = a := actL_actC a
  rw [e1]
  simp only [sp_LCheck, cfgOf_cfgD, e2, chkA, h]
  simp
theorem lchk_pre {S P : Int} {ls : List (Int × Int)} {a : Ac} (hx : isCfg (cfgD S ls P) = true) (hk : okAc a) : sp_LCheck.pre [.agg [.int .i64 S, .fz 2 (ls.map lbc), .int .i64 P], .agg (actC a)] = True := by
  simp only [sp_LCheck, eq_iff_iff, iff_true]; exact ⟨cfgD S ls P, a, rfl, hx, hk⟩
theorem actE_keep {S : Int} {L : Nat} {a : Ac} (h : actE S L a = 0) (hL : L ≤ 6) : okAc a := by
  have hn : numB S L a := by
    unfold actE at h
    split at h
    · cases h
    · split at h
      · cases h
      · rename_i hh; exact Decidable.not_not.1 hh
  have := hn.2.2.2.2.2.2.2.2.1
  show a.keep.length ≤ 1000000
  omega
theorem length_actsL (S : Int) (L : Nat) (most : Int) (hm : most ≤ 1000) : ∀ (rs : List Rw) (out : List Ac), out.length ≤ 1003 → (actsL S L most rs out).length ≤ 1003
  | [], out, h => by simpa [actsL] using h
  | r :: rs, out, h => by
    rw [actsL]
    split
    · refine length_actsL S L most hm rs _ ?_
      have : (more S (mkAct S L r) r.e).length ≤ 2 := by unfold more; split <;> simp
      simp only [List.length_append, List.length_singleton]
      omega
    · exact h

section
variable {T : Tb}
set_option maxRecDepth 100000 in
set_option maxHeartbeats 8000000 in
theorem v_ActBare (h0 : T.sp n_reredoskeep_picked = some sp_picked) (h1 : T.sp n_reredoskeep_two = some sp_two) (h2 : T.sp n_reredoskeep_Acts = some sp_Acts) (h3 : T.sp n_lines_Check = some sp_LCheck) : Verified T ir_reredoskeep_ActBare sp_ActBare := by
  refine Verified.mk ?_
  rintro ds ⟨rs, w, rfl, hrs, hw⟩
  have x0 : sp_picked.hx = none := rfl
  have x1 : sp_two.hx = none := rfl
  have x2 : sp_Acts.hx = none := rfl
  have x3 : sp_LCheck.hx = none := rfl
  have hone : inR .i64 1 := by simp only [inR]; omega
  have f1 : sp_two.F [.int .i64 1] = .agg [.int .i64 2, .fz 2 ([(0, 0), (1, 0)].map lbc), .int .i64 3] := rfl
  have p1 : sp_two.pre [.int .i64 1] = True := by simp only [sp_two, eq_iff_iff, iff_true]; exact ⟨1, rfl, hone⟩
  have hck : check 2 [(0, 0), (1, 0)] 3 = 0 := by decide
  have hx : isCfg (cfgD 2 [(0, 0), (1, 0)] 3) = true := rfl
  have f2 : sp_Acts.F [.agg [.int .i64 2, .fz 2 ([(0, 0), (1, 0)].map lbc), .int .i64 3], .fz 6 (rs.map rawC), .int .i64 20, .bool true] = .fz 12 ((actsL 2 2 20 rs []).map actC) := by
    have e1 : D.agg [.int .i64 2, .fz 2 ([(0, 0), (1, 0)].map lbc), .int .i64 3] = cfgD 2 [(0, 0), (1, 0)] 3 := rfl
    have e2 : D.fz 6 (rs.map rawC) = rawsD rs := rfl
    rw [e1, e2]
    simp only [sp_Acts, cfgOf_cfgD, rawsOf_rawsD]
    rfl
  have p2 : sp_Acts.pre [.agg [.int .i64 2, .fz 2 ([(0, 0), (1, 0)].map lbc), .int .i64 3], .fz 6 (rs.map rawC), .int .i64 20, .bool true] = True := by
    simp only [sp_Acts, eq_iff_iff, iff_true]
    refine ⟨cfgD 2 [(0, 0), (1, 0)] 3, rs, 20, rfl, hx, ?_, hrs, by decide, by decide⟩
    simp only [cfgOf_cfgD]
    decide
  have hgood := actsL_good 2 2 20 (by decide) (by decide) rs [] (by simp)
  have hlen := length_actsL 2 2 20 (by decide) rs [] (by simp)
  generalize actsL 2 2 20 rs [] = acts at f2 hgood hlen
  have f3 := fun a => lchk_F (S := 2) (P := 3) (ls := [(0, 0), (1, 0)]) a hck
  have p3 := fun a => lchk_pre (S := 2) (P := 3) (ls := [(0, 0), (1, 0)]) (a := a) hx
  have b6 := pk_bounds w 6 (by decide)
  have q1 : sp_picked.pre [.int .i64 w, .int .i64 6] = True := by
    simp only [sp_picked, eq_iff_iff, iff_true]; exact ⟨_, _, rfl, hw, by decide⟩
  have q2 : sp_picked.F [.int .i64 w, .int .i64 6] = .int .i64 (pk w 6) := rfl
  generalize pk w 6 = k at b6 q2
  simp only [List.map_cons, List.map_nil, lbc] at f1 f2 p2 f3 p3
  simp (implicitDefEqProofs := false) (maxSteps := 10000000) [k_seq, k_block, k_skip, k_reg, k_alt, k_cond, k_exit, k_ret, kf_nil, kf_seq_n, kf_seq_e, kf_seq_r, kf_blk_n, kf_blk_e, kf_blk_r, kf_lp_n, kf_lp_e, kf_lp_r, kf_cut_n, kf_cut_e, kf_cut_r, mkTm, VCops, VCalt, istep, act, gd, applyE, wrapD, Opd.ev, get_mk, set_mk, set_mk0, tget16, tset16, tget_0, tset_0, tget_1, tset_1, tget_2, tset_2, tget_3, tset_3, tget_4, tset_4, tget_5, tset_5, tget_6, tset_6, tget_7, tset_7, tget_8, tset_8, tget_9, tset_9, tget_10, tset_10, tget_11, tset_11, tget_12, tset_12, tget_13, tset_13, tget_14, tset_14, tget_15, tset_15, D.un, D.gu, gus, IOp.opds, binD, fnPost, getRes, IRes.get, oneRes, D.out, outL, D.clos, closL, D.norow, norowL, D.lv, lvL, D.scal, scalL, D.cells, D.cell, D.cell', St.lk, obPut, obDel, List.lookup, cut, pickD, splice, fillParts, fillRows, elem_cons, newsOf, D.pl, D.forget, forgetL, Ob.forget, forgetO, eqCells, sg, leD, leDL, leOb, apartK, St.le, D.keys, keysL, D.rows, rowsL, obKeys, addKeys, reach, pos, D.ren, renL, Ob.ren, inM, outM, inObs, outObs, goneK, apartN, okNames_eq, okNms, obNms, namesOK_nil, namesOK_cons, freeOK_nil, freeOK_cons, D.frz, frzL, Ob.frz, frzO, St.frz, forgetLs, dropObs, putObs, hcall, freeOf, keeps, baseN, shD, isShift, shMax, k_bad, VCopsG, frz_nil, actx, actc, cnum, St.frzT, St.opnT, St.clsT, D.opn, opnL, Ob.opn, opnO, ir_reredoskeep_ActBare, h1, h2, x1, x2, f1, p1, f2, p2, rawsD]
  refine k_loop (ι := {i : Nat // i ≤ acts.length}) (fun x => ⟨mkTm 49 0 [(1, .int .i64 w), (5, .own 5 0), (6, .row 19), (22, .fz 12 (acts.map actC)), (23, .int .i64 acts.length), (24, .int .i64 x.1)], [(5, .box [.int .i64 2, .fz 2 [[.int .i64 0, .int .i64 0], [.int .i64 1, .int .i64 0]], .int .i64 3]), (19, .row 12 [
    [.int .i64 5, .int .i64 1, .int .i64 0, .int .i64 0, .int .i64 0, .fz 1 [], .int .i64 0, .int .i64 0, .int .i64 0, .int .i64 0, .int .i64 0, .str []],
    [.int .i64 7, .int .i64 0, .int .i64 0, .int .i64 1, .int .i64 0, .fz 1 [], .int .i64 0, .int .i64 0, .int .i64 0, .int .i64 0, .int .i64 0, .str []],
    [.int .i64 1, .int .i64 0, .int .i64 0, .int .i64 0, .int .i64 1, .fz 1 [], .int .i64 1, .int .i64 0, .int .i64 0, .int .i64 0, .int .i64 0, .str []],
    [.int .i64 2, .int .i64 0, .int .i64 0, .int .i64 0, .int .i64 0, .fz 1 [], .int .i64 0, .int .i64 0, .int .i64 0, .int .i64 0, .int .i64 0, .str [120]],
    [.int .i64 8, .int .i64 0, .int .i64 0, .int .i64 0, .int .i64 0, .fz 1 [[.int .i64 0]], .int .i64 0, .int .i64 0, .int .i64 0, .int .i64 0, .int .i64 0, .str []],
    [.int .i64 1, .int .i64 0, .int .i64 0, .int .i64 0, .int .i64 0, .fz 1 [], .int .i64 4, .int .i64 0, .int .i64 0, .int .i64 0, .int .i64 1, .str []]])]⟩)
    (fun x => acts.length - x.1) [] ⟨0, by omega⟩ (by simp (implicitDefEqProofs := false) (maxSteps := 10000000) [k_seq, k_block, k_skip, k_reg, k_alt, k_cond, k_exit, k_ret, kf_nil, kf_seq_n, kf_seq_e, kf_seq_r, kf_blk_n, kf_blk_e, kf_blk_r, kf_lp_n, kf_lp_e, kf_lp_r, kf_cut_n, kf_cut_e, kf_cut_r, mkTm, VCops, VCalt, istep, act, gd, applyE, wrapD, Opd.ev, get_mk, set_mk, set_mk0, tget16, tset16, tget_0, tset_0, tget_1, tset_1, tget_2, tset_2, tget_3, tset_3, tget_4, tset_4, tget_5, tset_5, tget_6, tset_6, tget_7, tset_7, tget_8, tset_8, tget_9, tset_9, tget_10, tset_10, tget_11, tset_11, tget_12, tset_12, tget_13, tset_13, tget_14, tset_14, tget_15, tset_15, D.un, D.gu, gus, IOp.opds, binD, fnPost, getRes, IRes.get, oneRes, D.out, outL, D.clos, closL, D.norow, norowL, D.lv, lvL, D.scal, scalL, D.cells, D.cell, D.cell', St.lk, obPut, obDel, List.lookup, cut, pickD, splice, fillParts, fillRows, elem_cons, newsOf, D.pl, D.forget, forgetL, Ob.forget, forgetO, eqCells, sg, leD, leDL, leOb, apartK, St.le, D.keys, keysL, D.rows, rowsL, obKeys, addKeys, reach, pos, D.ren, renL, Ob.ren, inM, outM, inObs, outObs, goneK, apartN, okNames_eq, okNms, obNms, namesOK_nil, namesOK_cons, freeOK_nil, freeOK_cons, D.frz, frzL, Ob.frz, frzO, St.frz, forgetLs, dropObs, putObs, hcall, freeOf, keeps, baseN, shD, isShift, shMax, k_bad, VCopsG, frz_nil, actx, actc, cnum, St.frzT, St.opnT, St.clsT, D.opn, opnL, Ob.opn, opnO]) ?_
  rintro ⟨i, hi⟩ P hQ
  by_cases h : i < acts.length
  · have hil : (i : Int) < acts.length := by omega
    have hel := elem_map actC acts i h
    have hg := hgood _ (List.getElem_mem h)
    have hok := actE_keep hg (by decide)
    have f3' := f3 acts[i]
    have p3' := p3 acts[i] hok
    have hL : ([((0 : Int), (0 : Int)), (1, 0)]).length = 2 := rfl
    rw [hL, hg] at f3'
    generalize acts[i] = a at hel f3' p3'
    clear f3 p3
    obtain ⟨kind, site, to, label, pick, keep, ⟨c1, c2, c3, c4, c5⟩, line⟩ := a
    simp only [actC] at hel f3' p3'
    simp (implicitDefEqProofs := false) (maxSteps := 10000000) [k_seq, k_block, k_skip, k_reg, k_alt, k_cond, k_exit, k_ret, kf_nil, kf_seq_n, kf_seq_e, kf_seq_r, kf_blk_n, kf_blk_e, kf_blk_r, kf_lp_n, kf_lp_e, kf_lp_r, kf_cut_n, kf_cut_e, kf_cut_r, mkTm, VCops, VCalt, istep, act, gd, applyE, wrapD, Opd.ev, get_mk, set_mk, set_mk0, tget16, tset16, tget_0, tset_0, tget_1, tset_1, tget_2, tset_2, tget_3, tset_3, tget_4, tset_4, tget_5, tset_5, tget_6, tset_6, tget_7, tset_7, tget_8, tset_8, tget_9, tset_9, tget_10, tset_10, tget_11, tset_11, tget_12, tset_12, tget_13, tset_13, tget_14, tset_14, tget_15, tset_15, D.un, D.gu, gus, IOp.opds, binD, fnPost, getRes, IRes.get, oneRes, D.out, outL, D.clos, closL, D.norow, norowL, D.lv, lvL, D.scal, scalL, D.cells, D.cell, D.cell', St.lk, obPut, obDel, List.lookup, cut, pickD, splice, fillParts, fillRows, elem_cons, newsOf, D.pl, D.forget, forgetL, Ob.forget, forgetO, eqCells, sg, leD, leDL, leOb, apartK, St.le, D.keys, keysL, D.rows, rowsL, obKeys, addKeys, reach, pos, D.ren, renL, Ob.ren, inM, outM, inObs, outObs, goneK, apartN, okNames_eq, okNms, obNms, namesOK_nil, namesOK_cons, freeOK_nil, freeOK_cons, D.frz, frzL, Ob.frz, frzO, St.frz, forgetLs, dropObs, putObs, hcall, freeOf, keeps, baseN, shD, isShift, shMax, k_bad, VCopsG, frz_nil, actx, actc, cnum, St.frzT, St.opnT, St.clsT, D.opn, opnL, Ob.opn, opnO, ir_reredoskeep_ActBare_b0, hil, h, hel, h3, x3, f3', p3']
    exact ⟨by simp only [inR]; omega, hQ _ [] ⟨i + 1, by omega⟩ (by simp (implicitDefEqProofs := false) (maxSteps := 10000000) [k_seq, k_block, k_skip, k_reg, k_alt, k_cond, k_exit, k_ret, kf_nil, kf_seq_n, kf_seq_e, kf_seq_r, kf_blk_n, kf_blk_e, kf_blk_r, kf_lp_n, kf_lp_e, kf_lp_r, kf_cut_n, kf_cut_e, kf_cut_r, mkTm, VCops, VCalt, istep, act, gd, applyE, wrapD, Opd.ev, get_mk, set_mk, set_mk0, tget16, tset16, tget_0, tset_0, tget_1, tset_1, tget_2, tset_2, tget_3, tset_3, tget_4, tset_4, tget_5, tset_5, tget_6, tset_6, tget_7, tset_7, tget_8, tset_8, tget_9, tset_9, tget_10, tset_10, tget_11, tset_11, tget_12, tset_12, tget_13, tset_13, tget_14, tset_14, tget_15, tset_15, D.un, D.gu, gus, IOp.opds, binD, fnPost, getRes, IRes.get, oneRes, D.out, outL, D.clos, closL, D.norow, norowL, D.lv, lvL, D.scal, scalL, D.cells, D.cell, D.cell', St.lk, obPut, obDel, List.lookup, cut, pickD, splice, fillParts, fillRows, elem_cons, newsOf, D.pl, D.forget, forgetL, Ob.forget, forgetO, eqCells, sg, leD, leDL, leOb, apartK, St.le, D.keys, keysL, D.rows, rowsL, obKeys, addKeys, reach, pos, D.ren, renL, Ob.ren, inM, outM, inObs, outObs, goneK, apartN, okNames_eq, okNms, obNms, namesOK_nil, namesOK_cons, freeOK_nil, freeOK_cons, D.frz, frzL, Ob.frz, frzO, St.frz, forgetLs, dropObs, putObs, hcall, freeOf, keeps, baseN, shD, isShift, shMax, k_bad, VCopsG, frz_nil, actx, actc, cnum, St.frzT, St.opnT, St.clsT, D.opn, opnL, Ob.opn, opnO]) (by simp only; omega)⟩
  · have g0 := f3 ⟨0, 0, 0, 0, 0, [], c0, []⟩
    have g0p := p3 ⟨0, 0, 0, 0, 0, [], c0, []⟩ (by simp [okAc])
    have e0 : actE 2 2 ⟨0, 0, 0, 0, 0, [], c0, []⟩ = 3 := by decide
    have hL : ([((0 : Int), (0 : Int)), (1, 0)]).length = 2 := rfl
    rw [hL, e0] at g0
    have r0 := f3 ⟨5, 1, 0, 0, 0, [], c0, []⟩
    have r0p := p3 ⟨5, 1, 0, 0, 0, [], c0, []⟩ (by simp [okAc])
    have r1 := f3 ⟨7, 0, 0, 1, 0, [], c0, []⟩
    have r1p := p3 ⟨7, 0, 0, 1, 0, [], c0, []⟩ (by simp [okAc])
    have r2 := f3 ⟨1, 0, 0, 0, 1, [], ⟨1, 0, 0, 0, 0⟩, []⟩
    have r2p := p3 ⟨1, 0, 0, 0, 1, [], ⟨1, 0, 0, 0, 0⟩, []⟩ (by simp [okAc])
    have r3 := f3 ⟨2, 0, 0, 0, 0, [], c0, [120]⟩
    have r3p := p3 ⟨2, 0, 0, 0, 0, [], c0, [120]⟩ (by simp [okAc])
    have r4 := f3 ⟨8, 0, 0, 0, 0, [0], c0, []⟩
    have r4p := p3 ⟨8, 0, 0, 0, 0, [0], c0, []⟩ (by simp [okAc])
    have r5 := f3 ⟨1, 0, 0, 0, 0, [], ⟨4, 0, 0, 0, 1⟩, []⟩
    have r5p := p3 ⟨1, 0, 0, 0, 0, [], ⟨4, 0, 0, 0, 1⟩, []⟩ (by simp [okAc])
    rw [hL, show actE 2 2 ⟨5, 1, 0, 0, 0, [], c0, []⟩ = 4 by decide] at r0
    rw [hL, show actE 2 2 ⟨7, 0, 0, 1, 0, [], c0, []⟩ = 4 by decide] at r1
    rw [hL, show actE 2 2 ⟨1, 0, 0, 0, 1, [], ⟨1, 0, 0, 0, 0⟩, []⟩ = 4 by decide] at r2
    rw [hL, show actE 2 2 ⟨2, 0, 0, 0, 0, [], c0, [120]⟩ = 4 by decide] at r3
    rw [hL, show actE 2 2 ⟨8, 0, 0, 0, 0, [0], c0, []⟩ = 4 by decide] at r4
    rw [hL, show actE 2 2 ⟨1, 0, 0, 0, 0, [], ⟨4, 0, 0, 0, 1⟩, []⟩ = 4 by decide] at r5
    clear f3 p3 hgood
    simp only [actC, c0, List.map_nil, List.map_cons, ic] at g0 g0p r0 r0p r1 r1p r2 r2p r3 r3p r4 r4p r5 r5p
    have hil : ¬ (i : Int) < acts.length := by omega
    rcases (show k = 0 ∨ k = 1 ∨ k = 2 ∨ k = 3 ∨ k = 4 ∨ k = 5 by omega) with rfl | rfl | rfl | rfl | rfl | rfl
    all_goals simp (implicitDefEqProofs := false) (maxSteps := 10000000) [k_seq, k_block, k_skip, k_reg, k_alt, k_cond, k_exit, k_ret, kf_nil, kf_seq_n, kf_seq_e, kf_seq_r, kf_blk_n, kf_blk_e, kf_blk_r, kf_lp_n, kf_lp_e, kf_lp_r, kf_cut_n, kf_cut_e, kf_cut_r, mkTm, VCops, VCalt, istep, act, gd, applyE, wrapD, Opd.ev, get_mk, set_mk, set_mk0, tget16, tset16, tget_0, tset_0, tget_1, tset_1, tget_2, tset_2, tget_3, tset_3, tget_4, tset_4, tget_5, tset_5, tget_6, tset_6, tget_7, tset_7, tget_8, tset_8, tget_9, tset_9, tget_10, tset_10, tget_11, tset_11, tget_12, tset_12, tget_13, tset_13, tget_14, tset_14, tget_15, tset_15, D.un, D.gu, gus, IOp.opds, binD, fnPost, getRes, IRes.get, oneRes, D.out, outL, D.clos, closL, D.norow, norowL, D.lv, lvL, D.scal, scalL, D.cells, D.cell, D.cell', St.lk, obPut, obDel, List.lookup, cut, pickD, splice, fillParts, fillRows, elem_cons, newsOf, D.pl, D.forget, forgetL, Ob.forget, forgetO, eqCells, sg, leD, leDL, leOb, apartK, St.le, D.keys, keysL, D.rows, rowsL, obKeys, addKeys, reach, pos, D.ren, renL, Ob.ren, inM, outM, inObs, outObs, goneK, apartN, okNames_eq, okNms, obNms, namesOK_nil, namesOK_cons, freeOK_nil, freeOK_cons, D.frz, frzL, Ob.frz, frzO, St.frz, forgetLs, dropObs, putObs, hcall, freeOf, keeps, baseN, shD, isShift, shMax, k_bad, VCopsG, frz_nil, actx, actc, cnum, St.frzT, St.opnT, St.clsT, D.opn, opnL, Ob.opn, opnO, ir_reredoskeep_ActBare_b0, ir_reredoskeep_ActBare_r1, hil, h0, h3, x0, x3, q1, q2, g0, g0p, r0, r0p, r1, r1p, r2, r2p, r3, r3p, r4, r4p, r5, r5p, elem, sp_ActBare]
end
end Go.Proofs.Ytehobldeogpcbaa
