/-
  EndApplies answers true on data. Conditions: those of its specification's 'pre', and that the functions that are called are what theirs say.
-/
import Derived.Test.YtjilpdgpdpibkaaStK
set_option linter.unusedVariables false
set_option linter.unusedSimpArgs false
namespace Go.Proofs.Ytjilpdgpdpibkaa
open Go Go.Vcg

theorem filter_noTx {l : List Lk} {t : Tx} (h : ∀ x ∈ l, isTx x.site x.n t = false) : l.filter (fun x => !isTx x.site x.n t) = l := by
  rw [List.filter_eq_self]
  intro x hx
  simp [h x hx]
theorem applies_plain {s : Sto} (h : InvK 30 s) {a k v : Int} (ha : 1 ≤ a ∧ a ≤ 9) (hk : 0 ≤ k ∧ k < 8) (hv : 0 ≤ v ∧ v < 99) (yes : Bool) : writeS s (2, a) k v 0 = (s0, 11) ∨ ∃ u w was n, peekS s k = (was, n, 0) ∧ 0 ≤ n ∧ n ≤ 1000 ∧ writeS s (2, a) k v 0 = (u, 0) ∧ endS u (2, a) yes = (w, 0) ∧ OkS w ∧ peekS w k = (if yes = true then v else was, if yes = true then n + 1 else n, 0) := by
  have hvq : okVQ v 0 := ⟨by omega, by omega, by omega, by omega⟩
  have e := write_new h (by decide) (t := (2, a)) (by simp) (by simp only; omega) hk hvq
  have hnt := noTx_new h (t := (2, a)) (by simp)
  have ht : okTx 2 a = true := okTx_of (t := (2, a)) (by simp) (by simp only; omega)
  cases hb' : s.locks.any fun x => decide (x.key = k)
  · right
    rw [hb'] at e
    have hbw : (s.locks.any fun x => decide (x.key = k) && x.wr) = false := by
      rw [List.any_eq_false] at hb' ⊢
      intro x hx
      have := hb' x hx
      simp only [decide_eq_true_eq] at this
      simp [this]
    have hp := peek_new h hk
    rw [hbw] at hp
    have hver := ver_new h k
    have hu : OkS (addL s ⟨2, a, k, true, v, 0⟩) := okS_addL h (by simp) (by simp only; omega) (lkR_of hk hvq rfl) (by simpa using hb')
    have hu' := (okS_iff _).2 hu
    have c2 : callE (addL s ⟨2, a, k, true, v, 0⟩) (2, a) 0 = 0 := callE_ok hu' (t := (2, a)) ht (by omega)
    have e' : writeS s (2, a) k v 0 = (addL s ⟨2, a, k, true, v, 0⟩, 0) := e
    have hw := okS_end hu (t := (2, a)) ht yes (K := 8) (m := 720) (by omega) (by omega) (fun x hx => by
      have := h.its x hx
      simp only [itB] at this ⊢
      omega) (fun x hx => by
      simp only [addL, List.mem_append, List.mem_singleton] at hx
      rcases hx with hx | rfl
      · have := (h.lks x hx).1
        simp only [lkB] at this ⊢
        omega
      · exact ⟨hk.1, hk.2, by simp only; omega, by simp only; omega⟩)
    have hE : endS (addL s ⟨2, a, k, true, v, 0⟩) (2, a) yes = ((endS (addL s ⟨2, a, k, true, v, 0⟩) (2, a) yes).1, 0) := by
      rw [endS, if_neg (by simp [c2])]
    have hits : (endS (addL s ⟨2, a, k, true, v, 0⟩) (2, a) yes).1.items = if yes = true then putIt s.items k v else s.items := by
      rw [endS, if_neg (by simp [c2])]
      show endIts (2, a) yes (s.locks ++ [_]) s.items = _
      rw [endIts_append, endIts_others (2, a) yes s.locks s.items hnt]
      simp [endIts, stepE, isTx]
    have hlks : (endS (addL s ⟨2, a, k, true, v, 0⟩) (2, a) yes).1.locks = s.locks := by
      rw [endS, if_neg (by simp [c2])]
      show (s.locks ++ [_]).filter _ = _
      rw [List.filter_append, filter_noTx hnt]
      simp [isTx]
    refine ⟨_, _, _, _, hp, hver.1, by omega, e', hE, hw, ?_⟩
    generalize (endS (addL s ⟨2, a, k, true, v, 0⟩) (2, a) yes).1 = w at hw hits hlks
    have c1 : callE w (0, 1) k = 0 := callE_ok ((okS_iff _).2 hw) (by simp [okTx]) hk
    have hbz : busyB w (0, 0) k false = false := by
      have := busy_noTx (noTx_zero h 0) k false
      simp only [Bool.false_or] at this
      have e2 : busyB w (0, 0) k false = busyB s (0, 0) k false := by rw [busyB, busyB, hlks]
      rw [e2, this, hbw]
    rw [peekS, if_neg (by simp [c1]), if_neg (by simp [hbz]), hits]
    cases yes
    · rfl
    · simp only [if_true, itemAt_put h.ok.sorted]
  · left
    rw [hb'] at e
    exact e
def sp_EndApplies : Sp := { pre := fun ds => ∃ (l : List Rw) (a key v : Int) (yes : Bool), ds = [rawsD l, .int .i64 a, .int .i64 key, .int .i64 v, .bool yes] ∧ okRaws l ∧ inR .i64 a ∧ inR .i64 key ∧ inR .i64 v, F := fun _ => .bool true }
section
variable {T : Tb}
set_option maxRecDepth 100000 in
set_option maxHeartbeats 8000000 in
theorem v_EndApplies (h1 : T.sp n_reredoskeep_Store = some sp_Store) (h2 : T.sp n_store_Check = some sp_SCheck) (h3 : T.sp n_store_Write = some sp_Write) (h4 : T.sp n_reredoskeep_picked = some sp_picked) (h5 : T.sp n_store_Peek = some sp_Peek) (h6 : T.sp n_store_End = some sp_End) : Verified T ir_reredoskeep_EndApplies sp_EndApplies := by
  refine Verified.mk ?_
  rintro ds ⟨l, a, key, v, yes, rfl, hl, ha, hkey, hv⟩
  have x1 : sp_Store.hx = none := rfl
  have x2 : sp_SCheck.hx = none := rfl
  have x3 : sp_Write.hx = none := rfl
  have x4 : sp_picked.hx = none := rfl
  have x5 : sp_Peek.hx = none := rfl
  have x6 : sp_End.hx = none := rfl
  have f1 : sp_Store.F [.fz 6 (l.map rawC), .int .i64 30] = _ := store_F l 30
  have p1 : sp_Store.pre [.fz 6 (l.map rawC), .int .i64 30] = True := store_pre hl (m := 30) (by decide)
  have hI := invK_store l (m := 30) (by decide)
  have hF := fewN_store l 30
  generalize storeK l 30 = s at f1 hI hF
  have b1 := pk_bounds a 9 (by decide)
  have q1 := pk_pre ha (m := 9) (by decide)
  have q1' := pk_F a 9
  generalize pk a 9 = A at b1 q1'
  have b2 := pk_bounds key 8 (by decide)
  have q2 := pk_pre hkey (m := 8) (by decide)
  have q2' := pk_F key 8
  generalize pk key 8 = k at b2 q2'
  have b3 := pk_bounds v 99 (by decide)
  have q3 := pk_pre hv (m := 99) (by decide)
  have q3' := pk_F v 99
  generalize pk v 99 = V at b3 q3'
  have r1 : inR .i64 (1 + A) := by simp only [inR]; omega
  have hp := applies_plain hI (a := 1 + A) (k := k) (v := V) (by omega) b2 b3 yes
  have f3 := chk_F' hI.ok
  have p3 := chk_pre (fewS_of hF (by decide))
  have f4 := write_F s (2, 1 + A) k V 0
  have p4 := write_pre (fewN_fewS' hF (by decide)) (2, 1 + A) k V 0
  have f5 := peek_F s k
  have p5 := peek_pre (fewN_fewS' hF (by decide)) k
  rcases hp with hp | ⟨u, w, was, n, hp1, hn1, hn2, hp, hp2, hp3, hp4⟩
  · rw [hp] at f4
    generalize peekS s k = z at f5
    obtain ⟨z1, z2, z3⟩ := z
    clear hI hF hp
    obtain ⟨s1, s2, s3, s4⟩ := s
    simp only [stoC, txC, s0, List.map_nil] at f1 f3 p3 f4 p4 f5 p5
    simp only [rawsD]
    simp (implicitDefEqProofs := false) (maxSteps := 10000000) [k_seq, k_block, k_skip, k_reg, k_alt, k_cond, k_exit, k_ret, kf_nil, kf_seq_n, kf_seq_e, kf_seq_r, kf_blk_n, kf_blk_e, kf_blk_r, kf_lp_n, kf_lp_e, kf_lp_r, kf_cut_n, kf_cut_e, kf_cut_r, mkTm, VCops, VCalt, istep, act, gd, applyE, wrapD, Opd.ev, get_mk, set_mk, set_mk0, tget16, tset16, tget_0, tset_0, tget_1, tset_1, tget_2, tset_2, tget_3, tset_3, tget_4, tset_4, tget_5, tset_5, tget_6, tset_6, tget_7, tset_7, tget_8, tset_8, tget_9, tset_9, tget_10, tset_10, tget_11, tset_11, tget_12, tset_12, tget_13, tset_13, tget_14, tset_14, tget_15, tset_15, D.un, D.gu, gus, IOp.opds, binD, fnPost, getRes, IRes.get, oneRes, D.out, outL, D.clos, closL, D.norow, norowL, D.lv, lvL, D.scal, scalL, D.cells, D.cell, D.cell', St.lk, obPut, obDel, List.lookup, cut, pickD, splice, fillParts, fillRows, elem_cons, newsOf, D.pl, D.forget, forgetL, Ob.forget, forgetO, eqCells, sg, leD, leDL, leOb, apartK, St.le, D.keys, keysL, D.rows, rowsL, obKeys, addKeys, reach, pos, D.ren, renL, Ob.ren, inM, outM, inObs, outObs, goneK, apartN, okNames_eq, okNms, obNms, namesOK_nil, namesOK_cons, freeOK_nil, freeOK_cons, D.frz, frzL, Ob.frz, frzO, St.frz, forgetLs, dropObs, putObs, hcall, freeOf, keeps, baseN, shD, isShift, shMax, k_bad, VCopsG, frz_nil, actx, actc, cnum, vwCut, St.frzT, St.opnT, St.clsT, D.opn, opnL, Ob.opn, opnO, ir_reredoskeep_EndApplies, h1, x1, h2, x2, h3, x3, h4, x4, h5, x5, h6, x6, f1, p1, f3, p3, f4, p4, f5, p5, q1, q1', q2, q2', q3, q3', r1]
    all_goals exact rfl
  · have hFu : fewN u 31 := by
      have := fewN_write hF (2, 1 + A) k V 0
      rw [hp] at this; exact this
    have hFw : fewN w 32 := by
      have := fewN_end hFu (2, 1 + A) yes
      rw [hp2] at this; exact this
    have hFu' := fewN_fewS' hFu (by decide)
    have hFw' := fewN_fewS' hFw (by decide)
    rw [hp] at f4
    rw [hp1] at f5
    have f6 := end_F u (2, 1 + A) yes
    have p6 := end_pre hFu' (2, 1 + A) yes
    rw [hp2] at f6
    have f7 := peek_F w k
    have p7 := peek_pre hFw' k
    rw [hp4] at f7
    have f8 := chk_F' hp3
    have p8 := chk_pre (fewS_of hFw (by decide))
    have r2 : inR .i64 (n + 1) := by simp only [inR]; omega
    clear hI hF hp hp1 hp2 hp3 hp4 hFu hFu' hFw hFw'
    obtain ⟨s1, s2, s3, s4⟩ := s
    obtain ⟨u1, u2, u3, u4⟩ := u
    obtain ⟨w1, w2, w3, w4⟩ := w
    simp only [stoC, txC, s0, List.map_nil] at f1 f3 p3 f4 p4 f5 p5 f6 p6 f7 p7 f8 p8
    simp only [rawsD]
    cases yes
    · simp only [Bool.false_eq_true, if_false] at f7
      simp (implicitDefEqProofs := false) (maxSteps := 10000000) [k_seq, k_block, k_skip, k_reg, k_alt, k_cond, k_exit, k_ret, kf_nil, kf_seq_n, kf_seq_e, kf_seq_r, kf_blk_n, kf_blk_e, kf_blk_r, kf_lp_n, kf_lp_e, kf_lp_r, kf_cut_n, kf_cut_e, kf_cut_r, mkTm, VCops, VCalt, istep, act, gd, applyE, wrapD, Opd.ev, get_mk, set_mk, set_mk0, tget16, tset16, tget_0, tset_0, tget_1, tset_1, tget_2, tset_2, tget_3, tset_3, tget_4, tset_4, tget_5, tset_5, tget_6, tset_6, tget_7, tset_7, tget_8, tset_8, tget_9, tset_9, tget_10, tset_10, tget_11, tset_11, tget_12, tset_12, tget_13, tset_13, tget_14, tset_14, tget_15, tset_15, D.un, D.gu, gus, IOp.opds, binD, fnPost, getRes, IRes.get, oneRes, D.out, outL, D.clos, closL, D.norow, norowL, D.lv, lvL, D.scal, scalL, D.cells, D.cell, D.cell', St.lk, obPut, obDel, List.lookup, cut, pickD, splice, fillParts, fillRows, elem_cons, newsOf, D.pl, D.forget, forgetL, Ob.forget, forgetO, eqCells, sg, leD, leDL, leOb, apartK, St.le, D.keys, keysL, D.rows, rowsL, obKeys, addKeys, reach, pos, D.ren, renL, Ob.ren, inM, outM, inObs, outObs, goneK, apartN, okNames_eq, okNms, obNms, namesOK_nil, namesOK_cons, freeOK_nil, freeOK_cons, D.frz, frzL, Ob.frz, frzO, St.frz, forgetLs, dropObs, putObs, hcall, freeOf, keeps, baseN, shD, isShift, shMax, k_bad, VCopsG, frz_nil, actx, actc, cnum, vwCut, St.frzT, St.opnT, St.clsT, D.opn, opnL, Ob.opn, opnO, ir_reredoskeep_EndApplies, h1, x1, h2, x2, h3, x3, h4, x4, h5, x5, h6, x6, f1, p1, f3, p3, f4, p4, f5, p5, f6, p6, f7, p7, f8, p8, q1, q1', q2, q2', q3, q3', r1, r2]
      all_goals exact rfl
    · simp only [if_true] at f7
      simp (implicitDefEqProofs := false) (maxSteps := 10000000) [k_seq, k_block, k_skip, k_reg, k_alt, k_cond, k_exit, k_ret, kf_nil, kf_seq_n, kf_seq_e, kf_seq_r, kf_blk_n, kf_blk_e, kf_blk_r, kf_lp_n, kf_lp_e, kf_lp_r, kf_cut_n, kf_cut_e, kf_cut_r, mkTm, VCops, VCalt, istep, act, gd, applyE, wrapD, Opd.ev, get_mk, set_mk, set_mk0, tget16, tset16, tget_0, tset_0, tget_1, tset_1, tget_2, tset_2, tget_3, tset_3, tget_4, tset_4, tget_5, tset_5, tget_6, tset_6, tget_7, tset_7, tget_8, tset_8, tget_9, tset_9, tget_10, tset_10, tget_11, tset_11, tget_12, tset_12, tget_13, tset_13, tget_14, tset_14, tget_15, tset_15, D.un, D.gu, gus, IOp.opds, binD, fnPost, getRes, IRes.get, oneRes, D.out, outL, D.clos, closL, D.norow, norowL, D.lv, lvL, D.scal, scalL, D.cells, D.cell, D.cell', St.lk, obPut, obDel, List.lookup, cut, pickD, splice, fillParts, fillRows, elem_cons, newsOf, D.pl, D.forget, forgetL, Ob.forget, forgetO, eqCells, sg, leD, leDL, leOb, apartK, St.le, D.keys, keysL, D.rows, rowsL, obKeys, addKeys, reach, pos, D.ren, renL, Ob.ren, inM, outM, inObs, outObs, goneK, apartN, okNames_eq, okNms, obNms, namesOK_nil, namesOK_cons, freeOK_nil, freeOK_cons, D.frz, frzL, Ob.frz, frzO, St.frz, forgetLs, dropObs, putObs, hcall, freeOf, keeps, baseN, shD, isShift, shMax, k_bad, VCopsG, frz_nil, actx, actc, cnum, vwCut, St.frzT, St.opnT, St.clsT, D.opn, opnL, Ob.opn, opnO, ir_reredoskeep_EndApplies, h1, x1, h2, x2, h3, x3, h4, x4, h5, x5, h6, x6, f1, p1, f3, p3, f4, p4, f5, p5, f6, p6, f7, p7, f8, p8, q1, q1', q2, q2', q3, q3', r1, r2]
      all_goals exact rfl
end
end Go.Proofs.Ytjilpdgpdpibkaa
