/-
  PeekNothing answers true on data. Conditions: those of its specification's 'pre', and that the functions that are called are what theirs say.
-/
import Derived.Test.YtjilpdgpdpibkaaStL
set_option linter.unusedVariables false
set_option linter.unusedSimpArgs false
namespace Go.Proofs.Ytjilpdgpdpibkaa
open Go Go.Vcg

theorem looks_plain {s : Sto} (h : InvK 30 s) {c a k : Int} (hc : 2 ≤ c ∧ c < 4) (ha : 1 ≤ a ∧ a ≤ 9) (hk : 0 ≤ k ∧ k < 8) : (peekS s k = (0, 0, 11) ∧ readS s (c, a) k = (s0, 0, 0, 11)) ∨ ∃ v n, peekS s k = (v, n, 0) ∧ readS s (c, a) k = (addL s ⟨c, a, k, false, 0, 0⟩, v, n, 0) ∧ peekS (addL s ⟨c, a, k, false, 0, 0⟩) k = (v, n, 0) ∧ OkS (addL s ⟨c, a, k, false, 0, 0⟩) ∧ v = (itemAt s.items k).value ∧ n = (itemAt s.items k).version := by
  have hp := peek_new h hk
  have hr := read_new h (t := (c, a)) hc (by simp only; omega) hk
  cases hb : s.locks.any fun x => decide (x.key = k) && x.wr
  · right
    rw [hb] at hp hr
    have hu : OkS (addL s ⟨c, a, k, false, 0, 0⟩) := okS_addL h hc (by simp only; omega) (lkR_read hk) (by simpa using hb)
    refine ⟨_, _, hp, hr, ?_, hu, rfl, rfl⟩
    have c1 : callE (addL s ⟨c, a, k, false, 0, 0⟩) (0, 1) k = 0 := callE_ok ((okS_iff _).2 hu) (by simp [okTx]) hk
    have hbz : busyB (addL s ⟨c, a, k, false, 0, 0⟩) (0, 0) k false = false := by
      have := busy_noTx (noTx_zero h 0) k false
      simp only [Bool.false_or] at this
      rw [busy_addL, this, hb]
      simp
    rw [peekS, if_neg (by simp [c1]), if_neg (by simp [hbz])]
    rfl
  · left
    rw [hb] at hp hr
    exact ⟨hp, hr⟩
def sp_PeekNothing : Sp := { pre := fun ds => ∃ (l : List Rw) (a key : Int), ds = [rawsD l, .int .i64 a, .int .i64 key] ∧ okRaws l ∧ inR .i64 a ∧ inR .i64 key, F := fun _ => .bool true }
section
variable {T : Tb}
set_option maxRecDepth 100000 in
set_option maxHeartbeats 8000000 in
theorem v_PeekNothing (h1 : T.sp n_reredoskeep_Store = some sp_Store) (h2 : T.sp n_store_Check = some sp_SCheck) (h3 : T.sp n_store_Read = some sp_Read) (h4 : T.sp n_reredoskeep_picked = some sp_picked) (h5 : T.sp n_store_Peek = some sp_Peek) (h6 : T.sp n_reredoskeep_storeTells = some sp_tells) : Verified T ir_reredoskeep_PeekNothing sp_PeekNothing := by
  refine Verified.mk ?_
  rintro ds ⟨l, a, key, rfl, hl, ha, hkey⟩
  have x1 : sp_Store.hx = none := rfl
  have x2 : sp_SCheck.hx = none := rfl
  have x3 : sp_Read.hx = none := rfl
  have x4 : sp_picked.hx = none := rfl
  have x5 : sp_Peek.hx = none := rfl
  have x6 : sp_tells.hx = none := rfl
  have f1 : sp_Store.F [.fz 6 (l.map rawC), .int .i64 30] = _ := store_F l 30
  have p1 : sp_Store.pre [.fz 6 (l.map rawC), .int .i64 30] = True := store_pre hl (m := 30) (by decide)
  have hI := invK_store l (m := 30) (by decide)
  have hF := fewN_store l 30
  generalize storeK l 30 = s at f1 hI hF
  have b1 := pk_bounds a 9 (by decide)
  have q1 := pk_pre ha (m := 9) (by decide)
  have q1' := pk_F a 9
  generalize pk a 9 = A at b1 q1'
  have b2 := pk_bounds key 8 (by decide)
  have q2 := pk_pre hkey (m := 8) (by decide)
  have q2' := pk_F key 8
  generalize pk key 8 = k at b2 q2'
  have r1 : inR .i64 (1 + A) := by simp only [inR]; omega
  have hp := looks_plain hI (c := 3) (a := 1 + A) (k := k) (by omega) (by omega) b2
  have f3 := chk_F' hI.ok
  have p3 := chk_pre (fewS_of hF (by decide))
  have f4 := peek_F s k
  have p4 := peek_pre (fewN_fewS' hF (by decide)) k
  have f5 := read_F s (3, 1 + A) k
  have p5 := read_pre (fewN_fewS' hF (by decide)) (3, 1 + A) k
  have f6 : sp_tells.F [] = .bool true := rfl
  have p6 : sp_tells.pre [] = True := by simp [sp_tells]
  rcases hp with ⟨hp, hp2⟩ | ⟨v, n, hp, hp2, hp3, -, -, -⟩
  · rw [hp] at f4
    rw [hp2] at f5
    clear hI hF hp hp2
    obtain ⟨s1, s2, s3, s4⟩ := s
    simp only [stoC, txC, s0, List.map_nil] at f1 f3 p3 f4 p4 f5 p5
    simp only [rawsD]
    simp (implicitDefEqProofs := false) (maxSteps := 10000000) [k_seq, k_block, k_skip, k_reg, k_alt, k_cond, k_exit, k_ret, kf_nil, kf_seq_n, kf_seq_e, kf_seq_r, kf_blk_n, kf_blk_e, kf_blk_r, kf_lp_n, kf_lp_e, kf_lp_r, kf_cut_n, kf_cut_e, kf_cut_r, mkTm, VCops, VCalt, istep, act, gd, applyE, wrapD, Opd.ev, get_mk, set_mk, set_mk0, tget16, tset16, tget_0, tset_0, tget_1, tset_1, tget_2, tset_2, tget_3, tset_3, tget_4, tset_4, tget_5, tset_5, tget_6, tset_6, tget_7, tset_7, tget_8, tset_8, tget_9, tset_9, tget_10, tset_10, tget_11, tset_11, tget_12, tset_12, tget_13, tset_13, tget_14, tset_14, tget_15, tset_15, D.un, D.gu, gus, IOp.opds, binD, fnPost, getRes, IRes.get, oneRes, D.out, outL, D.clos, closL, D.norow, norowL, D.lv, lvL, D.scal, scalL, D.cells, D.cell, D.cell', St.lk, obPut, obDel, List.lookup, cut, pickD, splice, fillParts, fillRows, elem_cons, newsOf, D.pl, D.forget, forgetL, Ob.forget, forgetO, eqCells, sg, leD, leDL, leOb, apartK, St.le, D.keys, keysL, D.rows, rowsL, obKeys, addKeys, reach, pos, D.ren, renL, Ob.ren, inM, outM, inObs, outObs, goneK, apartN, okNames_eq, okNms, obNms, namesOK_nil, namesOK_cons, freeOK_nil, freeOK_cons, D.frz, frzL, Ob.frz, frzO, St.frz, forgetLs, dropObs, putObs, hcall, freeOf, keeps, baseN, shD, isShift, shMax, k_bad, VCopsG, frz_nil, actx, actc, cnum, vwCut, St.frzT, St.opnT, St.clsT, D.opn, opnL, Ob.opn, opnO, ir_reredoskeep_PeekNothing, h1, x1, h2, x2, h3, x3, h4, x4, h5, x5, h6, x6, f1, p1, f3, p3, f4, p4, f5, p5, f6, p6, q1, q1', q2, q2', r1]
    all_goals exact rfl
  · have hFu : fewN (addL s ⟨3, 1 + A, k, false, 0, 0⟩) 31 := by
      have := fewN_read hF (3, 1 + A) k
      rw [hp2] at this; exact this
    rw [hp] at f4
    rw [hp2] at f5
    generalize addL s ⟨3, 1 + A, k, false, 0, 0⟩ = u at f5 hp3 hFu
    have f7 := peek_F u k
    have p7 := peek_pre (fewN_fewS' hFu (by decide)) k
    rw [hp3] at f7
    clear hI hF hp hp2 hp3 hFu
    obtain ⟨s1, s2, s3, s4⟩ := s
    obtain ⟨u1, u2, u3, u4⟩ := u
    simp only [stoC, txC, s0, List.map_nil] at f1 f3 p3 f4 p4 f5 p5 f7 p7
    simp only [rawsD]
    simp (implicitDefEqProofs := false) (maxSteps := 10000000) [k_seq, k_block, k_skip, k_reg, k_alt, k_cond, k_exit, k_ret, kf_nil, kf_seq_n, kf_seq_e, kf_seq_r, kf_blk_n, kf_blk_e, kf_blk_r, kf_lp_n, kf_lp_e, kf_lp_r, kf_cut_n, kf_cut_e, kf_cut_r, mkTm, VCops, VCalt, istep, act, gd, applyE, wrapD, Opd.ev, get_mk, set_mk, set_mk0, tget16, tset16, tget_0, tset_0, tget_1, tset_1, tget_2, tset_2, tget_3, tset_3, tget_4, tset_4, tget_5, tset_5, tget_6, tset_6, tget_7, tset_7, tget_8, tset_8, tget_9, tset_9, tget_10, tset_10, tget_11, tset_11, tget_12, tset_12, tget_13, tset_13, tget_14, tset_14, tget_15, tset_15, D.un, D.gu, gus, IOp.opds, binD, fnPost, getRes, IRes.get, oneRes, D.out, outL, D.clos, closL, D.norow, norowL, D.lv, lvL, D.scal, scalL, D.cells, D.cell, D.cell', St.lk, obPut, obDel, List.lookup, cut, pickD, splice, fillParts, fillRows, elem_cons, newsOf, D.pl, D.forget, forgetL, Ob.forget, forgetO, eqCells, sg, leD, leDL, leOb, apartK, St.le, D.keys, keysL, D.rows, rowsL, obKeys, addKeys, reach, pos, D.ren, renL, Ob.ren, inM, outM, inObs, outObs, goneK, apartN, okNames_eq, okNms, obNms, namesOK_nil, namesOK_cons, freeOK_nil, freeOK_cons, D.frz, frzL, Ob.frz, frzO, St.frz, forgetLs, dropObs, putObs, hcall, freeOf, keeps, baseN, shD, isShift, shMax, k_bad, VCopsG, frz_nil, actx, actc, cnum, vwCut, St.frzT, St.opnT, St.clsT, D.opn, opnL, Ob.opn, opnO, ir_reredoskeep_PeekNothing, h1, x1, h2, x2, h3, x3, h4, x4, h5, x5, h6, x6, f1, p1, f3, p3, f4, p4, f5, p5, f6, p6, f7, p7, q1, q1', q2, q2', r1]
    all_goals exact rfl
end
end Go.Proofs.Ytjilpdgpdpibkaa
