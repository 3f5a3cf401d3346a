/-
  HearWrite answers true on data. Conditions: those of its specification's 'pre', and that the functions that are called are what theirs say.
-/
import Derived.Test.YtilahimnineigaaDoorPtJ
set_option linter.unusedVariables false
set_option linter.unusedSimpArgs false
namespace Go.Proofs.YtilahimnineigaaDoor
open Go Go.Vcg

def sp_HearWrite : Sp := { pre := fun ds => ∃ (l : List Rw) (t : Rw) (key v room : Int), ds = [rawsD l, rawD t, .int .i64 key, .int .i64 v, .int .i64 room] ∧ okRaws l ∧ okRaw t ∧ inR .i64 key ∧ inR .i64 v ∧ inR .i64 room, F := fun _ => .bool true }
def wrM (n k v : Int) : Ms := ⟨2, 0, 0, 0, n, 0, k, v, 0, 1, false, 0⟩
theorem okKey_of {k : Int} (h : 0 ≤ k ∧ k < 8) : okKey k = true := by
  rw [okKey, decide_eq_true h.1, decide_eq_true h.2]; rfl
theorem okVal_of {v : Int} (h : 0 ≤ v ∧ v ≤ 1073741824) : okVal v = true := by
  rw [okVal, decide_eq_true h.1, decide_eq_true h.2]; rfl
theorem wrM_ok {n k v : Int} (h : 1 ≤ n ∧ n ≤ 1000) (hk : 0 ≤ k ∧ k < 8) (hv : 0 ≤ v ∧ v < 99) : chkM 1 [(0, 0), (1, 0)] 3 (wrM n k v) = 0 := by
  refine chk_one (by simp [wrM]) (by simp [wrM]) (by simp only [wrM]; omega) ?_ ?_ (by simp [wrM]) rfl rfl ?_
  · exact okKey_of hk
  · exact okVal_of (by simp only [wrM]; omega)
  · simp [okForm, wrM, pt, parts]
section
variable {T : Tb}
attribute [local simp] k_seq k_block k_skip k_reg k_alt k_cond k_exit k_ret kf_nil kf_seq_n kf_seq_e kf_seq_r kf_blk_n kf_blk_e kf_blk_r kf_lp_n kf_lp_e kf_lp_r kf_cut_n kf_cut_e kf_cut_r mkTm VCops VCalt istep act gd applyE wrapD Opd.ev get_mk set_mk set_mk0 tget16 tset16 tget_0 tset_0 tget_1 tset_1 tget_2 tset_2 tget_3 tset_3 tget_4 tset_4 tget_5 tset_5 tget_6 tset_6 tget_7 tset_7 tget_8 tset_8 tget_9 tset_9 tget_10 tset_10 tget_11 tset_11 tget_12 tset_12 tget_13 tset_13 tget_14 tset_14 tget_15 tset_15 D.un D.gu gus IOp.opds binD fnPost getRes IRes.get oneRes D.out outL D.clos closL D.norow norowL D.lv lvL D.scal scalL D.cells D.cell D.cell' St.lk obPut obDel List.lookup cut pickD splice fillParts fillRows elem_cons newsOf D.pl D.forget forgetL Ob.forget forgetO eqCells sg leD leDL leOb apartK St.le D.keys keysL D.rows rowsL obKeys addKeys reach pos D.ren renL Ob.ren inM outM inObs outObs goneK apartN okNames_eq okNms obNms namesOK_nil namesOK_cons freeOK_nil freeOK_cons D.frz frzL Ob.frz frzO St.frz forgetLs dropObs putObs hcall freeOf keeps baseN shD isShift shMax k_bad VCopsG frz_nil actx actc cnum vwCut St.frzT St.opnT St.clsT D.opn opnL Ob.opn opnO
set_option maxRecDepth 100000 in
set_option maxHeartbeats 8000000 in
theorem v_HearWrite (h1 : T.sp n_reredoskeep_Store = some sp_Store) (h2 : T.sp n_reredoskeep_picked = some sp_picked) (h3 : T.sp n_reredoskeep_two = some sp_two) (h4 : T.sp n_part_Hear = some sp_Hear) (h5 : T.sp n_store_Writes = some sp_Writes) (h6 : T.sp n_reredoskeep_sameStore = some sp_same) (h7 : T.sp n_store_Write = some sp_Write) (h8 : T.sp n_reredoskeep_sameRecord = some sp_sameRec) : Verified T ir_reredoskeep_HearWrite sp_HearWrite := by
  refine Verified.mk ?_
  rintro ds ⟨l, ⟨t0, a, t2, t3, t4, t5⟩, key, v, room, rfl, hl, ht, hkey, hv, hroom⟩
  have ha : inR .i64 a := ht.2.1
  have x1 : sp_Store.hx = none := rfl
  have x2 : sp_picked.hx = none := rfl
  have x3 : sp_two.hx = none := rfl
  have x4 : sp_Hear.hx = none := rfl
  have x5 : sp_Writes.hx = none := rfl
  have x6 : sp_same.hx = none := rfl
  have x7 : sp_Write.hx = none := rfl
  have x8 : sp_sameRec.hx = none := rfl
  have f1 : sp_Store.F [.fz 6 (l.map rawC), .int .i64 25] = _ := store_F l 25
  have p1 : sp_Store.pre [.fz 6 (l.map rawC), .int .i64 25] = True := store_pre hl (m := 25) (by decide)
  have hI := invK_store l (m := 25) (by decide)
  have hF := fewN_store l 25
  have hO := ovN_store l 25
  generalize storeK l 25 = s at f1 hI hF hO
  have b1 := pk_bounds a 9 (by decide)
  have q1 := pk_pre ha (m := 9) (by decide)
  have q1' := pk_F a 9
  generalize pk a 9 = A at b1 q1'
  have b2 := pk_bounds key 8 (by decide)
  have q2 := pk_pre hkey (m := 8) (by decide)
  have q2' := pk_F key 8
  generalize pk key 8 = k at b2 q2'
  have b3 := pk_bounds v 99 (by decide)
  have q3 := pk_pre hv (m := 99) (by decide)
  have q3' := pk_F v 99
  generalize pk v 99 = V at b3 q3'
  have b4 := pk_bounds room 1000 (by decide)
  have q4 := pk_pre hroom (m := 1000) (by decide)
  have q4' := pk_F room 1000
  generalize pk room 1000 = n at b4 q4'
  have f2 := two_F 0
  have e2 : (1 : Int) + pk 0 3 = 1 := by decide
  rw [e2] at f2
  have p2 := two_pre (s := 0) (by simp [inR])
  have o0 : OkS s0 := (okS_iff _).1 okS_s0
  have n0 : fewN s0 90 := fewN_s0 90
  have r1 : inR .i64 (5 + A) := by simp only [inR]; omega
  have hok := wrM_ok (n := 5 + A) (k := k) (v := V) (by omega) b2 b3
  obtain ⟨hnt, ho⟩ := fresh_of hI hO (t := (0, 5 + A)) (by simp only; omega)
  have hT : okTx (0, 5 + A).1 (0, 5 + A).2 = true := okTx_of (t := (0, 5 + A)) (by simp) (by simp only; omega)
  have hvq : okVQ V 1 := ⟨by omega, by omega, by omega, by omega⟩
  have hw := write_fresh hI (by decide) hnt ho hT (k := k) (v := V) (q := 1) b2 hvq
  have hE : hearE 1 3 0 0 (wrM (5 + A) k V) = 0 := hear_zero hok rfl rfl (by omega) (by simp [wrM])
  have f3 := write_F s (0, 5 + A) k V 1
  have p3 := write_pre (fewN_fewS' hF (by decide)) (0, 5 + A) k V 1
  have f4 := hear_F 1 3 0 0 s s0 [] n (wrM (5 + A) k V)
  have p4 := hear_pre (S := 1) (P := 3) (l := 0) (me := 0) (m := wrM (5 + A) k V) (ns := []) (by omega) (by omega) (by omega) (.inl rfl) hI.ok o0 (fewN_mono hF (by decide)) n0 (by simp) n
  rw [hearD, if_neg (by simp [hE]), hearA, if_neg (by simp [wrM]), if_pos (by simp [wrM])] at f4
  have p6 := same_pre (fewS_of hF (by decide))
  have f6 : sp_same.F [.agg (stoC s), .agg (stoC s)] = .bool true := rfl
  cases hb : s.locks.any fun x => decide (x.key = k)
  · rw [hb] at hw
    have hw' : writeS s (0, 5 + A) k V 1 = (addL s ⟨0, 5 + A, k, true, V, 1⟩, 0) := hw
    rw [hw'] at f3
    have hu : OkS (addL s ⟨0, 5 + A, k, true, V, 1⟩) := okS_fresh hI (x := ⟨0, 5 + A, k, true, V, 1⟩) hnt ho hT (lkR_of b2 hvq rfl) (by simpa using hb)
    have hwn : wrN (addL s ⟨0, 5 + A, k, true, V, 1⟩).locks (0, 5 + A) = 1 := by
      have h0 := wrN_zero hnt
      rw [wrN] at h0
      show wrN (s.locks ++ [_]) (0, 5 + A) = 1
      rw [wrN, List.countP_append, h0]
      simp [isTx]
    have hws := writes_of hu hT
    rw [hwn] at hws
    have hFu : fewN (addL s ⟨0, 5 + A, k, true, V, 1⟩) 26 := by
      have := fewN_write hF (0, 5 + A) k V 1
      rw [hw'] at this; exact this
    have f5 := writes_F (addL s ⟨0, 5 + A, k, true, V, 1⟩) (0, 5 + A)
    have p5 := writes_pre (fewN_fewS' hFu (by decide)) (0, 5 + A)
    rw [hws] at f5
    by_cases hr : n < 500
    · have hA : writeA s 0 n (wrM (5 + A) k V) = (s, [doneM 0 (wrM (5 + A) k V) 8], []) := by
        have he : writeE s n (wrM (5 + A) k V) = 8 := by
          rw [writeE]
          simp only [wrM, hw']
          rw [if_pos ⟨trivial, hr⟩]
        rw [writeA, he]
        rfl
      rw [hA] at f4
      generalize addL s ⟨0, 5 + A, k, true, V, 1⟩ = u at f3 f5 p5
      clear hI hF hO hnt ho hT hw hw' hb hu hwn hws hFu hE hok hA o0 n0 f5 p5
      obtain ⟨s1, s2, s3, s4⟩ := s
      obtain ⟨u1, u2, u3, u4⟩ := u
      simp only [stoC, txC, twoC, s0, ansD, ansC, msgC, doneM, ansM, wrM, List.map_nil, List.map_cons] at f1 f2 p2 f3 p3 f4 p4 f6 p6
      simp only [rawsD, rawD, rawC]
      simp (implicitDefEqProofs := false) (maxSteps := 10000000) [ir_reredoskeep_HearWrite, h1, x1, h2, x2, h3, x3, h4, x4, h5, x5, h6, x6, h7, x7, h8, x8, f1, p1, f2, p2, f3, p3, f4, p4, f6, p6, q1, q1', q2, q2', q3, q3', q4, q4', r1, hr]
      all_goals exact rfl
    · have hA : writeA s 0 n (wrM (5 + A) k V) = (addL s ⟨0, 5 + A, k, true, V, 1⟩, [doneM 0 (wrM (5 + A) k V) 0], [prepC (wrM (5 + A) k V)]) := by
        have he : writeE s n (wrM (5 + A) k V) = 0 := by
          rw [writeE]
          simp only [wrM, hw']
          rw [if_neg (by rintro ⟨_, h⟩; exact hr h)]
        rw [writeA, he, if_pos rfl]
        simp only [wrM, hw']
      rw [hA] at f4
      have p8 := sameRec_pre 1 0 (5 + A) k V 1 false
      have f8 : sp_sameRec.F [.agg [.int .i64 1, .int .i64 0, .int .i64 (5 + A), .int .i64 k, .int .i64 V, .int .i64 1, .bool false, .fz 1 []], .agg [.int .i64 1, .int .i64 0, .int .i64 (5 + A), .int .i64 k, .int .i64 V, .int .i64 1, .bool false, .fz 1 []]] = .bool true := rfl
      generalize addL s ⟨0, 5 + A, k, true, V, 1⟩ = u at f3 f4 f5 p5
      clear hI hF hO hnt ho hT hw hw' hb hu hwn hws hFu hE hok hA o0 n0 f6 p6
      obtain ⟨s1, s2, s3, s4⟩ := s
      obtain ⟨u1, u2, u3, u4⟩ := u
      simp only [stoC, txC, twoC, s0, ansD, ansC, msgC, doneM, ansM, wrM, prepC, List.map_nil, List.map_cons] at f1 f2 p2 f3 p3 f4 p4 f5 p5
      simp only [rawsD, rawD, rawC]
      simp (implicitDefEqProofs := false) (maxSteps := 10000000) [ir_reredoskeep_HearWrite, h1, x1, h2, x2, h3, x3, h4, x4, h5, x5, h6, x6, h7, x7, h8, x8, f1, p1, f2, p2, f3, p3, f4, p4, f5, p5, f8, p8, q1, q1', q2, q2', q3, q3', q4, q4', r1, hr]
      all_goals exact rfl
  · rw [hb] at hw
    have hw' : writeS s (0, 5 + A) k V 1 = (s0, 11) := hw
    rw [hw'] at f3
    have hA : writeA s 0 n (wrM (5 + A) k V) = (s, [doneM 0 (wrM (5 + A) k V) 11], []) := by
      have he : writeE s n (wrM (5 + A) k V) = 11 := by
        rw [writeE]
        simp only [wrM, hw']
        rw [if_neg (by rintro ⟨h, _⟩; cases h)]
      rw [writeA, he]
      rfl
    rw [hA] at f4
    clear hI hF hO hnt ho hT hw hw' hb hE hok hA o0 n0
    obtain ⟨s1, s2, s3, s4⟩ := s
    simp only [stoC, txC, twoC, s0, ansD, ansC, msgC, doneM, ansM, wrM, List.map_nil, List.map_cons] at f1 f2 p2 f3 p3 f4 p4 f6 p6
    simp only [rawsD, rawD, rawC]
    simp (implicitDefEqProofs := false) (maxSteps := 10000000) [ir_reredoskeep_HearWrite, h1, x1, h2, x2, h3, x3, h4, x4, h5, x5, h6, x6, h7, x7, h8, x8, f1, p1, f2, p2, f3, p3, f4, p4, f6, p6, q1, q1', q2, q2', q3, q3', q4, q4', r1]
    all_goals exact rfl
end
end Go.Proofs.YtilahimnineigaaDoor
