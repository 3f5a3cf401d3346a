/-
  ReadTells answers true on data. Conditions: those of its specification's 'pre', and that the functions that are called are what theirs say.
-/
import Derived.Test.YtjilpdgpdpibkaaStP
set_option linter.unusedVariables false
set_option linter.unusedSimpArgs false
namespace Go.Proofs.Ytjilpdgpdpibkaa
open Go Go.Vcg

theorem tells_plain {s : Sto} (h : InvK 30 s) {a k : Int} (ha : 1 ≤ a ∧ a ≤ 9) (hk : 0 ≤ k ∧ k < 8) : (readS s (2, a) k = (s0, 0, 0, 11) ∧ peekS s k = (0, 0, 11)) ∨ ∃ u v n, readS s (2, a) k = (u, v, n, 0) ∧ peekS s k = (v, n, 0) ∧ readS u (2, a) k = (u, v, n, 0) ∧ stillS u (2, a) k n = (true, 0) := by
  rcases looks_plain h (c := 2) (a := a) (k := k) (by omega) ha hk with ⟨h1, h2⟩ | ⟨v, n, h1, h2, h3, hu, hv, hn⟩
  · exact .inl ⟨h2, h1⟩
  · have hnt := noTx_new h (t := (2, a)) (by simp)
    have ht : okTx 2 a = true := okTx_of (t := (2, a)) (by simp) (by simp only; omega)
    have hr := read_own (x := ⟨2, a, k, false, 0, 0⟩) hu hnt ht hk
    refine .inr ⟨_, v, n, h2, h1, ?_, ?_⟩
    · rw [hv, hn]; exact hr
    · have c1 : callE (addL s ⟨2, a, k, false, 0, 0⟩) (2, a) k = 0 := callE_ok ((okS_iff _).2 hu) (t := (2, a)) ht hk
      have hl : lockI (addL s ⟨2, a, k, false, 0, 0⟩) (2, a) k = s.locks.length := (addL_lock (x := ⟨2, a, k, false, 0, 0⟩) hnt).1
      have hi : (addL s ⟨2, a, k, false, 0, 0⟩).items = s.items := rfl
      rw [stillS, if_neg (by simp [c1]), hl, hi, hn]
      simp
def sp_ReadTells : Sp := { pre := fun ds => ∃ (l : List Rw) (t : Rw) (key : Int), ds = [rawsD l, rawD t, .int .i64 key] ∧ okRaws l ∧ okRaw t ∧ inR .i64 key, F := fun _ => .bool true }
section
variable {T : Tb}
set_option maxRecDepth 100000 in
set_option maxHeartbeats 8000000 in
theorem v_ReadTells (h1 : T.sp n_reredoskeep_Store = some sp_Store) (h2 : T.sp n_store_Check = some sp_SCheck) (h3 : T.sp n_store_Read = some sp_Read) (h4 : T.sp n_reredoskeep_picked = some sp_picked) (h5 : T.sp n_store_Peek = some sp_Peek) (h6 : T.sp n_store_Still = some sp_Still) (h7 : T.sp n_reredoskeep_sameStore = some sp_same) : Verified T ir_reredoskeep_ReadTells sp_ReadTells := by
  refine Verified.mk ?_
  rintro ds ⟨l, ⟨t0, a, t2, t3, t4, t5⟩, key, rfl, hl, ht, hkey⟩
  have ha : inR .i64 a := ht.2.1
  have x1 : sp_Store.hx = none := rfl
  have x2 : sp_SCheck.hx = none := rfl
  have x3 : sp_Read.hx = none := rfl
  have x4 : sp_picked.hx = none := rfl
  have x5 : sp_Peek.hx = none := rfl
  have x6 : sp_Still.hx = none := rfl
  have x7 : sp_same.hx = none := rfl
  have f1 : sp_Store.F [.fz 6 (l.map rawC), .int .i64 30] = _ := store_F l 30
  have p1 : sp_Store.pre [.fz 6 (l.map rawC), .int .i64 30] = True := store_pre hl (m := 30) (by decide)
  have hI := invK_store l (m := 30) (by decide)
  have hF := fewN_store l 30
  generalize storeK l 30 = s at f1 hI hF
  have b1 := pk_bounds a 9 (by decide)
  have q1 := pk_pre ha (m := 9) (by decide)
  have q1' := pk_F a 9
  generalize pk a 9 = A at b1 q1'
  have b2 := pk_bounds key 8 (by decide)
  have q2 := pk_pre hkey (m := 8) (by decide)
  have q2' := pk_F key 8
  generalize pk key 8 = k at b2 q2'
  have r1 : inR .i64 (1 + A) := by simp only [inR]; omega
  have hp := tells_plain hI (a := 1 + A) (k := k) (by omega) b2
  have f3 := chk_F' hI.ok
  have p3 := chk_pre (fewS_of hF (by decide))
  have f4 := peek_F s k
  have p4 := peek_pre (fewN_fewS' hF (by decide)) k
  have f5 := read_F s (2, 1 + A) k
  have p5 := read_pre (fewN_fewS' hF (by decide)) (2, 1 + A) k
  rcases hp with ⟨hp, hp2⟩ | ⟨u, v, n, hp, hp2, hp3, hp4⟩
  · rw [hp2] at f4
    rw [hp] at f5
    clear hI hF hp hp2
    obtain ⟨s1, s2, s3, s4⟩ := s
    simp only [stoC, txC, s0, List.map_nil] at f1 f3 p3 f4 p4 f5 p5
    simp only [rawsD, rawD, rawC]
    simp (implicitDefEqProofs := false) (maxSteps := 10000000) [k_seq, k_block, k_skip, k_reg, k_alt, k_cond, k_exit, k_ret, kf_nil, kf_seq_n, kf_seq_e, kf_seq_r, kf_blk_n, kf_blk_e, kf_blk_r, kf_lp_n, kf_lp_e, kf_lp_r, kf_cut_n, kf_cut_e, kf_cut_r, mkTm, VCops, VCalt, istep, act, gd, applyE, wrapD, Opd.ev, get_mk, set_mk, set_mk0, tget16, tset16, tget_0, tset_0, tget_1, tset_1, tget_2, tset_2, tget_3, tset_3, tget_4, tset_4, tget_5, tset_5, tget_6, tset_6, tget_7, tset_7, tget_8, tset_8, tget_9, tset_9, tget_10, tset_10, tget_11, tset_11, tget_12, tset_12, tget_13, tset_13, tget_14, tset_14, tget_15, tset_15, D.un, D.gu, gus, IOp.opds, binD, fnPost, getRes, IRes.get, oneRes, D.out, outL, D.clos, closL, D.norow, norowL, D.lv, lvL, D.scal, scalL, D.cells, D.cell, D.cell', St.lk, obPut, obDel, List.lookup, cut, pickD, splice, fillParts, fillRows, elem_cons, newsOf, D.pl, D.forget, forgetL, Ob.forget, forgetO, eqCells, sg, leD, leDL, leOb, apartK, St.le, D.keys, keysL, D.rows, rowsL, obKeys, addKeys, reach, pos, D.ren, renL, Ob.ren, inM, outM, inObs, outObs, goneK, apartN, okNames_eq, okNms, obNms, namesOK_nil, namesOK_cons, freeOK_nil, freeOK_cons, D.frz, frzL, Ob.frz, frzO, St.frz, forgetLs, dropObs, putObs, hcall, freeOf, keeps, baseN, shD, isShift, shMax, k_bad, VCopsG, frz_nil, actx, actc, cnum, vwCut, St.frzT, St.opnT, St.clsT, D.opn, opnL, Ob.opn, opnO, ir_reredoskeep_ReadTells, h1, x1, h2, x2, h3, x3, h4, x4, h5, x5, h6, x6, h7, x7, f1, p1, f3, p3, f4, p4, f5, p5, q1, q1', q2, q2', r1]
    all_goals exact rfl
  · have hFu : fewN u 31 := by
      have := fewN_read hF (2, 1 + A) k
      rw [hp] at this; exact this
    have hFu' := fewN_fewS' hFu (by decide)
    rw [hp2] at f4
    rw [hp] at f5
    have f6 := read_F u (2, 1 + A) k
    have p6 := read_pre hFu' (2, 1 + A) k
    rw [hp3] at f6
    have f7 := still_F u (2, 1 + A) k n
    have p7 := still_pre hFu' (2, 1 + A) k n
    rw [hp4] at f7
    have p8 := same_pre (fewS_of hFu (by decide))
    have f8 : sp_same.F [.agg (stoC u), .agg (stoC u)] = .bool true := rfl
    clear hI hF hp hp2 hp3 hp4 hFu hFu'
    obtain ⟨s1, s2, s3, s4⟩ := s
    obtain ⟨u1, u2, u3, u4⟩ := u
    simp only [stoC, txC, s0, List.map_nil] at f1 f3 p3 f4 p4 f5 p5 f6 p6 f7 p7 f8 p8
    simp only [rawsD, rawD, rawC]
    simp (implicitDefEqProofs := false) (maxSteps := 10000000) [k_seq, k_block, k_skip, k_reg, k_alt, k_cond, k_exit, k_ret, kf_nil, kf_seq_n, kf_seq_e, kf_seq_r, kf_blk_n, kf_blk_e, kf_blk_r, kf_lp_n, kf_lp_e, kf_lp_r, kf_cut_n, kf_cut_e, kf_cut_r, mkTm, VCops, VCalt, istep, act, gd, applyE, wrapD, Opd.ev, get_mk, set_mk, set_mk0, tget16, tset16, tget_0, tset_0, tget_1, tset_1, tget_2, tset_2, tget_3, tset_3, tget_4, tset_4, tget_5, tset_5, tget_6, tset_6, tget_7, tset_7, tget_8, tset_8, tget_9, tset_9, tget_10, tset_10, tget_11, tset_11, tget_12, tset_12, tget_13, tset_13, tget_14, tset_14, tget_15, tset_15, D.un, D.gu, gus, IOp.opds, binD, fnPost, getRes, IRes.get, oneRes, D.out, outL, D.clos, closL, D.norow, norowL, D.lv, lvL, D.scal, scalL, D.cells, D.cell, D.cell', St.lk, obPut, obDel, List.lookup, cut, pickD, splice, fillParts, fillRows, elem_cons, newsOf, D.pl, D.forget, forgetL, Ob.forget, forgetO, eqCells, sg, leD, leDL, leOb, apartK, St.le, D.keys, keysL, D.rows, rowsL, obKeys, addKeys, reach, pos, D.ren, renL, Ob.ren, inM, outM, inObs, outObs, goneK, apartN, okNames_eq, okNms, obNms, namesOK_nil, namesOK_cons, freeOK_nil, freeOK_cons, D.frz, frzL, Ob.frz, frzO, St.frz, forgetLs, dropObs, putObs, hcall, freeOf, keeps, baseN, shD, isShift, shMax, k_bad, VCopsG, frz_nil, actx, actc, cnum, vwCut, St.frzT, St.opnT, St.clsT, D.opn, opnL, Ob.opn, opnO, ir_reredoskeep_ReadTells, h1, x1, h2, x2, h3, x3, h4, x4, h5, x5, h6, x6, h7, x7, f1, p1, f3, p3, f4, p4, f5, p5, f6, p6, f7, p7, f8, p8, q1, q1', q2, q2', r1]
    all_goals exact rfl
end
end Go.Proofs.Ytjilpdgpdpibkaa
