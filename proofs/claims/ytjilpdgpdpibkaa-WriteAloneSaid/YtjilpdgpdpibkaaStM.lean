/-
  WriteAlone answers true on data. Conditions: those of its specification's 'pre', and that the functions that are called are what theirs say.
-/
import Derived.Test.YtjilpdgpdpibkaaStL
set_option linter.unusedVariables false
set_option linter.unusedSimpArgs false
namespace Go.Proofs.Ytjilpdgpdpibkaa
open Go Go.Vcg

theorem noTx_addL {s : Sto} {x : Lk} {t : Tx} (h : noTx s t) (hx : isTx x.site x.n t = false) : noTx (addL s x) t := by
  intro y hy
  simp only [addL, List.mem_append, List.mem_singleton] at hy
  rcases hy with hy | rfl
  · exact h y hy
  · exact hx
theorem wrN_zero {l : List Lk} {t : Tx} (h : ∀ x ∈ l, isTx x.site x.n t = false) : wrN l t = 0 := by
  rw [wrN, List.countP_eq_zero]
  intro x hx
  simp [h x hx]
theorem alone_plain {s : Sto} (h : InvK 30 s) {a b k v : Int} (ha : 1 ≤ a ∧ a ≤ 9) (hb : 1 ≤ b ∧ b ≤ 9) (hk : 0 ≤ k ∧ k < 8) (hv : 0 ≤ v ∧ v < 1073741824) : (writeS s (2, a) k v 1 = (s0, 11) ∧ (s.locks.any fun x => decide (x.key = k)) = true) ∨ ∃ u, writeS s (2, a) k v 1 = (u, 0) ∧ readS u (3, b) k = (s0, 0, 0, 11) ∧ writeS u (3, b) k v 1 = (s0, 11) ∧ peekS u k = (0, 0, 11) ∧ (∃ ver, readS u (2, a) k = (u, v, ver, 0)) ∧ writesS u (2, a) = (1, 0) ∧ OkS u := by
  have hvq : okVQ v 1 := ⟨by omega, by omega, by omega, by omega⟩
  have e := write_new h (by decide) (t := (2, a)) (by simp) (by simp only; omega) hk hvq
  have hnt := noTx_new h (t := (2, a)) (by simp)
  have hnt3 := noTx_new h (t := (3, b)) (by simp)
  have ht : okTx 2 a = true := okTx_of (t := (2, a)) (by simp) (by simp only; omega)
  have ht3 : okTx 3 b = true := okTx_of (t := (3, b)) (by simp) (by simp only; omega)
  cases hb' : s.locks.any fun x => decide (x.key = k)
  · right
    rw [hb'] at e
    have hu : OkS (addL s ⟨2, a, k, true, v, 1⟩) := okS_addL h (by simp) (by simp only; omega) (lkR_of hk hvq rfl) (by simpa using hb')
    have hu' := (okS_iff _).2 hu
    have hn3 : noTx (addL s ⟨2, a, k, true, v, 1⟩) (3, b) := noTx_addL hnt3 (by simp [isTx])
    have hl3 := lockI_noTx hn3 k
    have ho3 : overB (addL s ⟨2, a, k, true, v, 1⟩) (3, b) = false := over_new h (t := (3, b)) (by simp)
    have c3 := callE_ok hu' (t := (3, b)) ht3 hk
    have bz : ∀ t all, isTx 2 a t = false → busyB (addL s ⟨2, a, k, true, v, 1⟩) t k all = true := by
      intro t all h'
      rw [busy_addL]
      simp [h']
    have e' : writeS s (2, a) k v 1 = (addL s ⟨2, a, k, true, v, 1⟩, 0) := e
    refine ⟨_, e', ?_, ?_, ?_, ⟨_, read_own (x := ⟨2, a, k, true, v, 1⟩) hu hnt ht hk⟩, ?_, hu⟩
    · rw [readS, if_neg (by simp [c3]), if_neg (by omega), if_neg (by simp [ho3]), if_pos (bz _ _ (by simp [isTx]))]
    · rw [writeS, if_neg (by simp [c3]), if_neg (by simpa using hvq), if_neg (by
        rintro (h' | ⟨h', _⟩)
        · rw [ho3] at h'; cases h'
        · omega), if_pos (bz _ _ (by simp [isTx]))]
    · have c1 : callE (addL s ⟨2, a, k, true, v, 1⟩) (0, 1) k = 0 := callE_ok hu' (by simp [okTx]) hk
      rw [peekS, if_neg (by simp [c1]), if_pos (bz _ _ (by simp [isTx]))]
    · have c2 : callE (addL s ⟨2, a, k, true, v, 1⟩) (2, a) 0 = 0 := callE_ok hu' (t := (2, a)) ht (by omega)
      have hw : wrN (addL s ⟨2, a, k, true, v, 1⟩).locks (2, a) = 1 := by
        have h0 := wrN_zero hnt
        rw [wrN] at h0
        show wrN (s.locks ++ [_]) (2, a) = 1
        rw [wrN, List.countP_append, h0]
        simp [isTx]
      rw [writesS, if_neg (by simp [c2]), hw]
      rfl
  · left
    rw [hb'] at e
    exact ⟨e, rfl⟩
def keyN (l : List Lk) (k : Int) : Nat := l.countP fun x => decide (x.key = k)
theorem keyN_succ (l : List Lk) (k : Int) {j : Nat} (hj : j < l.length) : keyN (l.take (j + 1)) k = keyN (l.take j) k + if l[j].key = k then 1 else 0 := by
  rw [keyN, List.take_succ_eq_append_getElem hj, List.countP_append]
  simp [keyN]
theorem keyN_le (l : List Lk) (k : Int) : keyN l k ≤ l.length := List.countP_le_length
theorem keyN_pos {l : List Lk} {k : Int} (h : (l.any fun x => decide (x.key = k)) = true) : 0 < keyN l k := by
  rw [keyN, List.countP_pos_iff]
  exact List.any_eq_true.1 h
def sp_WriteAlone : Sp := { pre := fun ds => ∃ (l : List Rw) (a b key v : Int), ds = [rawsD l, .int .i64 a, .int .i64 b, .int .i64 key, .int .i64 v] ∧ okRaws l ∧ inR .i64 a ∧ inR .i64 b ∧ inR .i64 key ∧ inR .i64 v, F := fun _ => .bool true }
section
variable {T : Tb}
set_option maxRecDepth 100000 in
set_option maxHeartbeats 8000000 in
theorem v_WriteAlone (h1 : T.sp n_reredoskeep_Store = some sp_Store) (h2 : T.sp n_store_Read = some sp_Read) (h3 : T.sp n_store_Check = some sp_SCheck) (h4 : T.sp n_store_Write = some sp_Write) (h5 : T.sp n_reredoskeep_picked = some sp_picked) (h6 : T.sp n_store_Peek = some sp_Peek) (h7 : T.sp n_store_Writes = some sp_Writes) : Verified T ir_reredoskeep_WriteAlone sp_WriteAlone := by
  refine Verified.mk ?_
  rintro ds ⟨l, a, b, key, v, rfl, hl, ha, hb, hkey, hv⟩
  have x1 : sp_Store.hx = none := rfl
  have x2 : sp_Read.hx = none := rfl
  have x3 : sp_SCheck.hx = none := rfl
  have x4 : sp_Write.hx = none := rfl
  have x5 : sp_picked.hx = none := rfl
  have x6 : sp_Peek.hx = none := rfl
  have x7 : sp_Writes.hx = none := rfl
  have f1 : sp_Store.F [.fz 6 (l.map rawC), .int .i64 30] = _ := store_F l 30
  have p1 : sp_Store.pre [.fz 6 (l.map rawC), .int .i64 30] = True := store_pre hl (m := 30) (by decide)
  have hI := invK_store l (m := 30) (by decide)
  have hF := fewN_store l 30
  generalize storeK l 30 = s at f1 hI hF
  have b1 := pk_bounds a 9 (by decide)
  have q1 := pk_pre ha (m := 9) (by decide)
  have q1' := pk_F a 9
  generalize pk a 9 = A at b1 q1'
  have b2 := pk_bounds b 9 (by decide)
  have q2 := pk_pre hb (m := 9) (by decide)
  have q2' := pk_F b 9
  generalize pk b 9 = B at b2 q2'
  have b3 := pk_bounds key 8 (by decide)
  have q3 := pk_pre hkey (m := 8) (by decide)
  have q3' := pk_F key 8
  generalize pk key 8 = k at b3 q3'
  have b4 := pk_bounds v 1073741824 (by decide)
  have q4 := pk_pre hv (m := 1073741824) (by decide)
  have q4' := pk_F v 1073741824
  generalize pk v 1073741824 = V at b4 q4'
  have r1 : inR .i64 (1 + A) := by simp only [inR]; omega
  have r2 : inR .i64 (1 + B) := by simp only [inR]; omega
  have hp := alone_plain hI (a := 1 + A) (b := 1 + B) (k := k) (v := V) (by omega) (by omega) b3 b4
  have f3 := chk_F' hI.ok
  have p3 := chk_pre (fewS_of hF (by decide))
  have f4 := write_F s (2, 1 + A) k V 1
  have p4 := write_pre (fewN_fewS' hF (by decide)) (2, 1 + A) k V 1
  have h20 := few20 hI
  rcases hp with ⟨hp, hp2⟩ | ⟨u, hp, hp2, hp3, hp4, ⟨ver, hp5⟩, hp6, hp7⟩
  · rw [hp] at f4
    clear hI hF hp
    obtain ⟨s1, s2, s3, s4⟩ := s
    have hkp := keyN_pos hp2
    simp only [stoC, txC, s0, List.map_nil] at f1 f3 p3 f4 p4 h20 hkp
    clear hp2
    simp only [rawsD]
    simp (implicitDefEqProofs := false) (maxSteps := 10000000) [k_seq, k_block, k_skip, k_reg, k_alt, k_cond, k_exit, k_ret, kf_nil, kf_seq_n, kf_seq_e, kf_seq_r, kf_blk_n, kf_blk_e, kf_blk_r, kf_lp_n, kf_lp_e, kf_lp_r, kf_cut_n, kf_cut_e, kf_cut_r, mkTm, VCops, VCalt, istep, act, gd, applyE, wrapD, Opd.ev, get_mk, set_mk, set_mk0, tget16, tset16, tget_0, tset_0, tget_1, tset_1, tget_2, tset_2, tget_3, tset_3, tget_4, tset_4, tget_5, tset_5, tget_6, tset_6, tget_7, tset_7, tget_8, tset_8, tget_9, tset_9, tget_10, tset_10, tget_11, tset_11, tget_12, tset_12, tget_13, tset_13, tget_14, tset_14, tget_15, tset_15, D.un, D.gu, gus, IOp.opds, binD, fnPost, getRes, IRes.get, oneRes, D.out, outL, D.clos, closL, D.norow, norowL, D.lv, lvL, D.scal, scalL, D.cells, D.cell, D.cell', St.lk, obPut, obDel, List.lookup, cut, pickD, splice, fillParts, fillRows, elem_cons, newsOf, D.pl, D.forget, forgetL, Ob.forget, forgetO, eqCells, sg, leD, leDL, leOb, apartK, St.le, D.keys, keysL, D.rows, rowsL, obKeys, addKeys, reach, pos, D.ren, renL, Ob.ren, inM, outM, inObs, outObs, goneK, apartN, okNames_eq, okNms, obNms, namesOK_nil, namesOK_cons, freeOK_nil, freeOK_cons, D.frz, frzL, Ob.frz, frzO, St.frz, forgetLs, dropObs, putObs, hcall, freeOf, keeps, baseN, shD, isShift, shMax, k_bad, VCopsG, frz_nil, actx, actc, cnum, vwCut, St.frzT, St.opnT, St.clsT, D.opn, opnL, Ob.opn, opnO, ir_reredoskeep_WriteAlone, h1, x1, h2, x2, h3, x3, h4, x4, h5, x5, h6, x6, h7, x7, f1, p1, f3, p3, f4, p4, q1, q1', q2, q2', q3, q3', q4, q4', r1, r2]
    refine k_loop (ι := {j : Nat // j ≤ s2.length}) (fun x => ⟨mkTm 154 0 [(14, .int .i64 k), (17, .int .i64 11), (18, .int .i64 (keyN (s2.take x.1) k : Nat)), (64, .fz 6 (s2.map lkC)), (65, .int .i64 s2.length), (66, .int .i64 x.1)], []⟩)
      (fun x => s2.length - x.1) [] ⟨0, by omega⟩ (by simp (implicitDefEqProofs := false) (maxSteps := 10000000) [k_seq, k_block, k_skip, k_reg, k_alt, k_cond, k_exit, k_ret, kf_nil, kf_seq_n, kf_seq_e, kf_seq_r, kf_blk_n, kf_blk_e, kf_blk_r, kf_lp_n, kf_lp_e, kf_lp_r, kf_cut_n, kf_cut_e, kf_cut_r, mkTm, VCops, VCalt, istep, act, gd, applyE, wrapD, Opd.ev, get_mk, set_mk, set_mk0, tget16, tset16, tget_0, tset_0, tget_1, tset_1, tget_2, tset_2, tget_3, tset_3, tget_4, tset_4, tget_5, tset_5, tget_6, tset_6, tget_7, tset_7, tget_8, tset_8, tget_9, tset_9, tget_10, tset_10, tget_11, tset_11, tget_12, tset_12, tget_13, tset_13, tget_14, tset_14, tget_15, tset_15, D.un, D.gu, gus, IOp.opds, binD, fnPost, getRes, IRes.get, oneRes, D.out, outL, D.clos, closL, D.norow, norowL, D.lv, lvL, D.scal, scalL, D.cells, D.cell, D.cell', St.lk, obPut, obDel, List.lookup, cut, pickD, splice, fillParts, fillRows, elem_cons, newsOf, D.pl, D.forget, forgetL, Ob.forget, forgetO, eqCells, sg, leD, leDL, leOb, apartK, St.le, D.keys, keysL, D.rows, rowsL, obKeys, addKeys, reach, pos, D.ren, renL, Ob.ren, inM, outM, inObs, outObs, goneK, apartN, okNames_eq, okNms, obNms, namesOK_nil, namesOK_cons, freeOK_nil, freeOK_cons, D.frz, frzL, Ob.frz, frzO, St.frz, forgetLs, dropObs, putObs, hcall, freeOf, keeps, baseN, shD, isShift, shMax, k_bad, VCopsG, frz_nil, actx, actc, cnum, vwCut, St.frzT, St.opnT, St.clsT, D.opn, opnL, Ob.opn, opnO, keyN]) ?_
    rintro ⟨j, hj⟩ P hQ
    by_cases hjl : j < s2.length
    · have hjl' : (j : Int) < s2.length := by omega
      have hel := elem_map lkC s2 j hjl
      have hst := keyN_succ s2 k hjl
      have hle := keyN_le (s2.take j) k
      have hle' : (s2.take j).length ≤ j := by simp; omega
      generalize keyN (s2.take j) k = n at hst hle hQ
      generalize s2[j] = x at hel hst
      obtain ⟨a1, a2, kk, w, vv, q⟩ := x
      simp only [lkC] at hel
      have hgo : ∀ s', (∃ σ, St.le σ s' ⟨mkTm 154 0 [(14, .int .i64 k), (17, .int .i64 11), (18, .int .i64 ((n + if kk = k then 1 else 0 : Nat) : Int)), (64, .fz 6 (s2.map lkC)), (65, .int .i64 s2.length), (66, .int .i64 (j + 1 : Nat))], []⟩) → P s' := by
        rintro s' ⟨σ, hs'⟩
        refine hQ s' σ ⟨j + 1, by omega⟩ ?_ (by simp only; omega)
        simp only [hst]
        exact hs'
      clear hQ
      by_cases e1 : kk = k
      · subst e1
        simp (implicitDefEqProofs := false) (maxSteps := 10000000) [k_seq, k_block, k_skip, k_reg, k_alt, k_cond, k_exit, k_ret, kf_nil, kf_seq_n, kf_seq_e, kf_seq_r, kf_blk_n, kf_blk_e, kf_blk_r, kf_lp_n, kf_lp_e, kf_lp_r, kf_cut_n, kf_cut_e, kf_cut_r, mkTm, VCops, VCalt, istep, act, gd, applyE, wrapD, Opd.ev, get_mk, set_mk, set_mk0, tget16, tset16, tget_0, tset_0, tget_1, tset_1, tget_2, tset_2, tget_3, tset_3, tget_4, tset_4, tget_5, tset_5, tget_6, tset_6, tget_7, tset_7, tget_8, tset_8, tget_9, tset_9, tget_10, tset_10, tget_11, tset_11, tget_12, tset_12, tget_13, tset_13, tget_14, tset_14, tget_15, tset_15, D.un, D.gu, gus, IOp.opds, binD, fnPost, getRes, IRes.get, oneRes, D.out, outL, D.clos, closL, D.norow, norowL, D.lv, lvL, D.scal, scalL, D.cells, D.cell, D.cell', St.lk, obPut, obDel, List.lookup, cut, pickD, splice, fillParts, fillRows, elem_cons, newsOf, D.pl, D.forget, forgetL, Ob.forget, forgetO, eqCells, sg, leD, leDL, leOb, apartK, St.le, D.keys, keysL, D.rows, rowsL, obKeys, addKeys, reach, pos, D.ren, renL, Ob.ren, inM, outM, inObs, outObs, goneK, apartN, okNames_eq, okNms, obNms, namesOK_nil, namesOK_cons, freeOK_nil, freeOK_cons, D.frz, frzL, Ob.frz, frzO, St.frz, forgetLs, dropObs, putObs, hcall, freeOf, keeps, baseN, shD, isShift, shMax, k_bad, VCopsG, frz_nil, actx, actc, cnum, vwCut, St.frzT, St.opnT, St.clsT, D.opn, opnL, Ob.opn, opnO, ir_reredoskeep_WriteAlone_b0, hjl', hel]
        exact ⟨hjl, by simp only [inR]; omega, by simp only [inR]; omega, hgo _ ⟨[], by simp (implicitDefEqProofs := false) (maxSteps := 10000000) [k_seq, k_block, k_skip, k_reg, k_alt, k_cond, k_exit, k_ret, kf_nil, kf_seq_n, kf_seq_e, kf_seq_r, kf_blk_n, kf_blk_e, kf_blk_r, kf_lp_n, kf_lp_e, kf_lp_r, kf_cut_n, kf_cut_e, kf_cut_r, mkTm, VCops, VCalt, istep, act, gd, applyE, wrapD, Opd.ev, get_mk, set_mk, set_mk0, tget16, tset16, tget_0, tset_0, tget_1, tset_1, tget_2, tset_2, tget_3, tset_3, tget_4, tset_4, tget_5, tset_5, tget_6, tset_6, tget_7, tset_7, tget_8, tset_8, tget_9, tset_9, tget_10, tset_10, tget_11, tset_11, tget_12, tset_12, tget_13, tset_13, tget_14, tset_14, tget_15, tset_15, D.un, D.gu, gus, IOp.opds, binD, fnPost, getRes, IRes.get, oneRes, D.out, outL, D.clos, closL, D.norow, norowL, D.lv, lvL, D.scal, scalL, D.cells, D.cell, D.cell', St.lk, obPut, obDel, List.lookup, cut, pickD, splice, fillParts, fillRows, elem_cons, newsOf, D.pl, D.forget, forgetL, Ob.forget, forgetO, eqCells, sg, leD, leDL, leOb, apartK, St.le, D.keys, keysL, D.rows, rowsL, obKeys, addKeys, reach, pos, D.ren, renL, Ob.ren, inM, outM, inObs, outObs, goneK, apartN, okNames_eq, okNms, obNms, namesOK_nil, namesOK_cons, freeOK_nil, freeOK_cons, D.frz, frzL, Ob.frz, frzO, St.frz, forgetLs, dropObs, putObs, hcall, freeOf, keeps, baseN, shD, isShift, shMax, k_bad, VCopsG, frz_nil, actx, actc, cnum, vwCut, St.frzT, St.opnT, St.clsT, D.opn, opnL, Ob.opn, opnO]⟩⟩
      · simp (implicitDefEqProofs := false) (maxSteps := 10000000) [k_seq, k_block, k_skip, k_reg, k_alt, k_cond, k_exit, k_ret, kf_nil, kf_seq_n, kf_seq_e, kf_seq_r, kf_blk_n, kf_blk_e, kf_blk_r, kf_lp_n, kf_lp_e, kf_lp_r, kf_cut_n, kf_cut_e, kf_cut_r, mkTm, VCops, VCalt, istep, act, gd, applyE, wrapD, Opd.ev, get_mk, set_mk, set_mk0, tget16, tset16, tget_0, tset_0, tget_1, tset_1, tget_2, tset_2, tget_3, tset_3, tget_4, tset_4, tget_5, tset_5, tget_6, tset_6, tget_7, tset_7, tget_8, tset_8, tget_9, tset_9, tget_10, tset_10, tget_11, tset_11, tget_12, tset_12, tget_13, tset_13, tget_14, tset_14, tget_15, tset_15, D.un, D.gu, gus, IOp.opds, binD, fnPost, getRes, IRes.get, oneRes, D.out, outL, D.clos, closL, D.norow, norowL, D.lv, lvL, D.scal, scalL, D.cells, D.cell, D.cell', St.lk, obPut, obDel, List.lookup, cut, pickD, splice, fillParts, fillRows, elem_cons, newsOf, D.pl, D.forget, forgetL, Ob.forget, forgetO, eqCells, sg, leD, leDL, leOb, apartK, St.le, D.keys, keysL, D.rows, rowsL, obKeys, addKeys, reach, pos, D.ren, renL, Ob.ren, inM, outM, inObs, outObs, goneK, apartN, okNames_eq, okNms, obNms, namesOK_nil, namesOK_cons, freeOK_nil, freeOK_cons, D.frz, frzL, Ob.frz, frzO, St.frz, forgetLs, dropObs, putObs, hcall, freeOf, keeps, baseN, shD, isShift, shMax, k_bad, VCopsG, frz_nil, actx, actc, cnum, vwCut, St.frzT, St.opnT, St.clsT, D.opn, opnL, Ob.opn, opnO, ir_reredoskeep_WriteAlone_b0, hjl', hel, e1]
        exact ⟨hjl, by simp only [inR]; omega, hgo _ ⟨[], by simp (implicitDefEqProofs := false) (maxSteps := 10000000) [k_seq, k_block, k_skip, k_reg, k_alt, k_cond, k_exit, k_ret, kf_nil, kf_seq_n, kf_seq_e, kf_seq_r, kf_blk_n, kf_blk_e, kf_blk_r, kf_lp_n, kf_lp_e, kf_lp_r, kf_cut_n, kf_cut_e, kf_cut_r, mkTm, VCops, VCalt, istep, act, gd, applyE, wrapD, Opd.ev, get_mk, set_mk, set_mk0, tget16, tset16, tget_0, tset_0, tget_1, tset_1, tget_2, tset_2, tget_3, tset_3, tget_4, tset_4, tget_5, tset_5, tget_6, tset_6, tget_7, tset_7, tget_8, tset_8, tget_9, tset_9, tget_10, tset_10, tget_11, tset_11, tget_12, tset_12, tget_13, tset_13, tget_14, tset_14, tget_15, tset_15, D.un, D.gu, gus, IOp.opds, binD, fnPost, getRes, IRes.get, oneRes, D.out, outL, D.clos, closL, D.norow, norowL, D.lv, lvL, D.scal, scalL, D.cells, D.cell, D.cell', St.lk, obPut, obDel, List.lookup, cut, pickD, splice, fillParts, fillRows, elem_cons, newsOf, D.pl, D.forget, forgetL, Ob.forget, forgetO, eqCells, sg, leD, leDL, leOb, apartK, St.le, D.keys, keysL, D.rows, rowsL, obKeys, addKeys, reach, pos, D.ren, renL, Ob.ren, inM, outM, inObs, outObs, goneK, apartN, okNames_eq, okNms, obNms, namesOK_nil, namesOK_cons, freeOK_nil, freeOK_cons, D.frz, frzL, Ob.frz, frzO, St.frz, forgetLs, dropObs, putObs, hcall, freeOf, keeps, baseN, shD, isShift, shMax, k_bad, VCopsG, frz_nil, actx, actc, cnum, vwCut, St.frzT, St.opnT, St.clsT, D.opn, opnL, Ob.opn, opnO, e1]⟩⟩
    · have hjn : j = s2.length := by omega
      subst hjn
      clear hQ
      simp only [List.take_length]
      generalize keyN s2 k = n at hkp
      simp (implicitDefEqProofs := false) (maxSteps := 10000000) [k_seq, k_block, k_skip, k_reg, k_alt, k_cond, k_exit, k_ret, kf_nil, kf_seq_n, kf_seq_e, kf_seq_r, kf_blk_n, kf_blk_e, kf_blk_r, kf_lp_n, kf_lp_e, kf_lp_r, kf_cut_n, kf_cut_e, kf_cut_r, mkTm, VCops, VCalt, istep, act, gd, applyE, wrapD, Opd.ev, get_mk, set_mk, set_mk0, tget16, tset16, tget_0, tset_0, tget_1, tset_1, tget_2, tset_2, tget_3, tset_3, tget_4, tset_4, tget_5, tset_5, tget_6, tset_6, tget_7, tset_7, tget_8, tset_8, tget_9, tset_9, tget_10, tset_10, tget_11, tset_11, tget_12, tset_12, tget_13, tset_13, tget_14, tset_14, tget_15, tset_15, D.un, D.gu, gus, IOp.opds, binD, fnPost, getRes, IRes.get, oneRes, D.out, outL, D.clos, closL, D.norow, norowL, D.lv, lvL, D.scal, scalL, D.cells, D.cell, D.cell', St.lk, obPut, obDel, List.lookup, cut, pickD, splice, fillParts, fillRows, elem_cons, newsOf, D.pl, D.forget, forgetL, Ob.forget, forgetO, eqCells, sg, leD, leDL, leOb, apartK, St.le, D.keys, keysL, D.rows, rowsL, obKeys, addKeys, reach, pos, D.ren, renL, Ob.ren, inM, outM, inObs, outObs, goneK, apartN, okNames_eq, okNms, obNms, namesOK_nil, namesOK_cons, freeOK_nil, freeOK_cons, D.frz, frzL, Ob.frz, frzO, St.frz, forgetLs, dropObs, putObs, hcall, freeOf, keeps, baseN, shD, isShift, shMax, k_bad, VCopsG, frz_nil, actx, actc, cnum, vwCut, St.frzT, St.opnT, St.clsT, D.opn, opnL, Ob.opn, opnO, ir_reredoskeep_WriteAlone_b0, ir_reredoskeep_WriteAlone_r1, hkp]
      all_goals exact rfl
  · have hFu : fewN u 31 := by
      have := fewN_write hF (2, 1 + A) k V 1
      rw [hp] at this; exact this
    have hFu' := fewN_fewS' hFu (by decide)
    rw [hp] at f4
    have f5 := read_F u (3, 1 + B) k
    have p5 := read_pre hFu' (3, 1 + B) k
    rw [hp2] at f5
    have f6 := write_F u (3, 1 + B) k V 1
    have p6 := write_pre hFu' (3, 1 + B) k V 1
    rw [hp3] at f6
    have f7 := peek_F u k
    have p7 := peek_pre hFu' k
    rw [hp4] at f7
    have f8 := read_F u (2, 1 + A) k
    have p8 := read_pre hFu' (2, 1 + A) k
    rw [hp5] at f8
    have f9 := writes_F u (2, 1 + A)
    have p9 := writes_pre hFu' (2, 1 + A)
    rw [hp6] at f9
    have f10 := chk_F' hp7
    have p10 := chk_pre (fewS_of hFu (by decide))
    clear hI hF hp hp2 hp3 hp4 hp5 hp6 hp7 hFu hFu'
    obtain ⟨s1, s2, s3, s4⟩ := s
    obtain ⟨u1, u2, u3, u4⟩ := u
    simp only [stoC, txC, s0, List.map_nil] at f1 f3 p3 f4 p4 f5 p5 f6 p6 f7 p7 f8 p8 f9 p9 f10 p10
    simp only [rawsD]
    simp (implicitDefEqProofs := false) (maxSteps := 10000000) [k_seq, k_block, k_skip, k_reg, k_alt, k_cond, k_exit, k_ret, kf_nil, kf_seq_n, kf_seq_e, kf_seq_r, kf_blk_n, kf_blk_e, kf_blk_r, kf_lp_n, kf_lp_e, kf_lp_r, kf_cut_n, kf_cut_e, kf_cut_r, mkTm, VCops, VCalt, istep, act, gd, applyE, wrapD, Opd.ev, get_mk, set_mk, set_mk0, tget16, tset16, tget_0, tset_0, tget_1, tset_1, tget_2, tset_2, tget_3, tset_3, tget_4, tset_4, tget_5, tset_5, tget_6, tset_6, tget_7, tset_7, tget_8, tset_8, tget_9, tset_9, tget_10, tset_10, tget_11, tset_11, tget_12, tset_12, tget_13, tset_13, tget_14, tset_14, tget_15, tset_15, D.un, D.gu, gus, IOp.opds, binD, fnPost, getRes, IRes.get, oneRes, D.out, outL, D.clos, closL, D.norow, norowL, D.lv, lvL, D.scal, scalL, D.cells, D.cell, D.cell', St.lk, obPut, obDel, List.lookup, cut, pickD, splice, fillParts, fillRows, elem_cons, newsOf, D.pl, D.forget, forgetL, Ob.forget, forgetO, eqCells, sg, leD, leDL, leOb, apartK, St.le, D.keys, keysL, D.rows, rowsL, obKeys, addKeys, reach, pos, D.ren, renL, Ob.ren, inM, outM, inObs, outObs, goneK, apartN, okNames_eq, okNms, obNms, namesOK_nil, namesOK_cons, freeOK_nil, freeOK_cons, D.frz, frzL, Ob.frz, frzO, St.frz, forgetLs, dropObs, putObs, hcall, freeOf, keeps, baseN, shD, isShift, shMax, k_bad, VCopsG, frz_nil, actx, actc, cnum, vwCut, St.frzT, St.opnT, St.clsT, D.opn, opnL, Ob.opn, opnO, ir_reredoskeep_WriteAlone, ir_reredoskeep_WriteAlone_r2, h1, x1, h2, x2, h3, x3, h4, x4, h5, x5, h6, x6, h7, x7, f1, p1, f3, p3, f4, p4, f5, p5, f6, p6, f7, p7, f8, p8, f9, p9, f10, p10, q1, q1', q2, q2', q3, q3', q4, q4', r1, r2]
    all_goals exact rfl
end
end Go.Proofs.Ytjilpdgpdpibkaa
