/-
  HearSure answers true on data. Conditions: those of its specification's 'pre', and that the functions that are called are what theirs say.
-/
import Derived.Test.YtilahimnineigaaDoorHlWrite
set_option linter.unusedVariables false
set_option linter.unusedSimpArgs false
namespace Go.Proofs.YtilahimnineigaaDoor
open Go Go.Vcg

def suM (k n : Int) : Ms := ⟨3, 0, 0, 0, 1, 0, k, 0, n, 0, false, 0⟩
theorem suM_ok {k n : Int} (hk : 0 ≤ k ∧ k < 8) (hn : 0 ≤ n ∧ n ≤ 1048576) : chkM 1 [(0, 0), (1, 0)] 3 (suM k n) = 0 := by
  refine chk_one (by simp [suM]) (by simp [suM]) (by simp [suM]) (okKey_of hk) rfl hn rfl rfl ?_
  simp [okForm, suM, pt, parts]
noncomputable def sp_sure : Sp := { pre := fun ds => ∃ (s : Sto) (k n : Int), ds = [.agg (stoC s), .ad 3 [twoC 1 3] 0 0, .ad 12 [msgC (suM k n)] 0 0] ∧ OkS s ∧ fewN s 90 ∧ (0 ≤ k ∧ k < 8) ∧ (0 ≤ n ∧ n ≤ 1048576), F := fun | [.agg s, _, .ad _ [m] _ _] => .bool (stillY (stoOf (.agg s)) 1 (msgL m)) | _ => .any }
theorem sure_F (s : Sto) (k n : Int) : sp_sure.F [.agg (stoC s), .ad 3 [twoC 1 3] 0 0, .ad 12 [msgC (suM k n)] 0 0] = .bool (stillY s 1 (suM k n)) := by
  have e : stoOf (.agg (stoC s)) = s := stoOf_stoD s
  have e2 : msgL (msgC (suM k n)) = suM k n := rfl
  simp only [sp_sure, e, e2]
theorem sure_pre {s : Sto} {k n : Int} (h1 : OkS s) (h2 : fewN s 90) (h3 : 0 ≤ k ∧ k < 8) (h4 : 0 ≤ n ∧ n ≤ 1048576) : sp_sure.pre [.agg (stoC s), .ad 3 [twoC 1 3] 0 0, .ad 12 [msgC (suM k n)] 0 0] = True := by
  simp only [sp_sure, eq_iff_iff, iff_true]; exact ⟨s, k, n, rfl, h1, h2, h3, h4⟩
theorem peek_any {s : Sto} (h : OkS s) {k : Int} (hk : 0 ≤ k ∧ k < 8) : peekS s k = if busyB s (0, 0) k false = true then (0, 0, 11) else ((itemAt s.items k).value, (itemAt s.items k).version, 0) := by
  have hc : callE s (0, 1) k = 0 := callE_ok ((okS_iff s).2 h) (by simp [okTx]) hk
  rw [peekS, if_neg (by simp [hc])]
theorem sure_plain {s : Sto} (h : InvK 25 s) (ho : ovN s) {k v : Int} (hk : 0 ≤ k ∧ k < 8) (hv : 0 ≤ v ∧ v < 99) : writeS s (0, 6) k v 1 = (s0, 11) ∨ ∃ u w z was n, peekS s k = (was, n, 0) ∧ 0 ≤ n ∧ n ≤ 1000 ∧ writeS s (0, 6) k v 1 = (u, 0) ∧ OkS u ∧ endS u (0, 6) true = (w, 0) ∧ OkS w ∧ endS u (0, 6) false = (z, 0) ∧ OkS z ∧ stillY s 1 (suM k n) = true ∧ stillY u 1 (suM k n) = false ∧ stillY w 1 (suM k n) = false ∧ stillY z 1 (suM k n) = true := by
  have hvq : okVQ v 1 := ⟨by omega, by omega, by omega, by omega⟩
  obtain ⟨hnt, hov⟩ := fresh_of h ho (t := (0, 6)) (by simp)
  have hT : okTx (0, 6).1 (0, 6).2 = true := by decide
  have e := write_fresh h (by decide) hnt hov hT (k := k) (v := v) (q := 1) hk hvq
  cases hb' : s.locks.any fun x => decide (x.key = k)
  · right
    rw [hb'] at e
    have hbw : (s.locks.any fun x => decide (x.key = k) && x.wr) = false := by
      rw [List.any_eq_false] at hb' ⊢
      intro x hx
      have := hb' x hx
      simp only [decide_eq_true_eq] at this
      simp [this]
    have hp := peek_new h hk
    rw [hbw] at hp
    have hp' : peekS s k = ((itemAt s.items k).value, (itemAt s.items k).version, 0) := hp
    have hver := ver_new h k
    have hu : OkS (addL s ⟨0, 6, k, true, v, 1⟩) := okS_fresh h (x := ⟨0, 6, k, true, v, 1⟩) hnt hov hT (lkR_of hk hvq rfl) (by simpa using hb')
    have hu' := (okS_iff _).2 hu
    have c2 : callE (addL s ⟨0, 6, k, true, v, 1⟩) (0, 6) 0 = 0 := callE_ok hu' (t := (0, 6)) hT (by omega)
    have e' : writeS s (0, 6) k v 1 = (addL s ⟨0, 6, k, true, v, 1⟩, 0) := e
    have hw := fun yes => okS_end hu (t := (0, 6)) hT yes (K := 8) (m := 720) (by omega) (by omega) (fun x hx => by
      have := h.its x hx
      simp only [itB] at this ⊢
      omega) (fun x hx => by
      simp only [addL, List.mem_append, List.mem_singleton] at hx
      rcases hx with hx | rfl
      · have := (h.lks x hx).1
        simp only [lkB] at this ⊢
        omega
      · exact ⟨hk.1, hk.2, by simp only; omega, by simp only; omega⟩)
    have hE : ∀ yes, endS (addL s ⟨0, 6, k, true, v, 1⟩) (0, 6) yes = ((endS (addL s ⟨0, 6, k, true, v, 1⟩) (0, 6) yes).1, 0) := fun yes => by
      rw [endS, if_neg (by simp [c2])]
    have hits : ∀ yes, (endS (addL s ⟨0, 6, k, true, v, 1⟩) (0, 6) yes).1.items = if yes = true then putIt s.items k v else s.items := fun yes => by
      rw [endS, if_neg (by simp [c2])]
      show endIts (0, 6) yes (s.locks ++ [_]) s.items = _
      rw [endIts_append, endIts_others (0, 6) yes s.locks s.items hnt]
      simp [endIts, stepE, isTx]
    have hlks : ∀ yes, (endS (addL s ⟨0, 6, k, true, v, 1⟩) (0, 6) yes).1.locks = s.locks := fun yes => by
      rw [endS, if_neg (by simp [c2])]
      show (s.locks ++ [_]).filter _ = _
      rw [List.filter_append, filter_noTx hnt]
      simp [isTx]
    have hbz : ∀ yes, busyB (endS (addL s ⟨0, 6, k, true, v, 1⟩) (0, 6) yes).1 (0, 0) k false = false := fun yes => by
      have := busy_noTx (noTx_zero h 0) k false
      simp only [Bool.false_or] at this
      have e2 : busyB (endS (addL s ⟨0, 6, k, true, v, 1⟩) (0, 6) yes).1 (0, 0) k false = busyB s (0, 0) k false := by rw [busyB, busyB, hlks]
      rw [e2, this, hbw]
    have hpe := fun yes => peek_any (hw yes) hk
    refine ⟨_, _, _, _, _, hp', hver.1, by omega, e', hu, hE true, hw true, hE false, hw false, ?_, ?_, ?_, ?_⟩
    · rw [stillY, if_neg (by decide)]
      show (decide ((peekS s k).2.2 = 0) && decide ((peekS s k).2.1 = (itemAt s.items k).version)) = true
      rw [hp']
      simp
    · rw [stillY, if_neg (by decide)]
      show (decide ((peekS (addL s ⟨0, 6, k, true, v, 1⟩) k).2.2 = 0) && decide ((peekS (addL s ⟨0, 6, k, true, v, 1⟩) k).2.1 = (itemAt s.items k).version)) = false
      have hbu : busyB (addL s ⟨0, 6, k, true, v, 1⟩) (0, 0) k false = true := by
        rw [busy_addL]
        simp [isTx]
      rw [peek_any hu hk, if_pos hbu]
      rfl
    · rw [stillY, if_neg (by decide)]
      show (decide ((peekS (endS (addL s ⟨0, 6, k, true, v, 1⟩) (0, 6) true).1 k).2.2 = 0) && decide ((peekS (endS (addL s ⟨0, 6, k, true, v, 1⟩) (0, 6) true).1 k).2.1 = (itemAt s.items k).version)) = false
      rw [hpe, if_neg (by simp [hbz]), hits]
      simp only [if_true, itemAt_put h.ok.sorted]
      simp
      omega
    · rw [stillY, if_neg (by decide)]
      show (decide ((peekS (endS (addL s ⟨0, 6, k, true, v, 1⟩) (0, 6) false).1 k).2.2 = 0) && decide ((peekS (endS (addL s ⟨0, 6, k, true, v, 1⟩) (0, 6) false).1 k).2.1 = (itemAt s.items k).version)) = true
      rw [hpe, if_neg (by simp [hbz]), hits]
      simp
  · left
    rw [hb'] at e
    exact e
def sp_HearSure : Sp := { pre := fun ds => ∃ (l : List Rw) (key v : Int), ds = [rawsD l, .int .i64 key, .int .i64 v] ∧ okRaws l ∧ inR .i64 key ∧ inR .i64 v, F := fun _ => .bool true }
section
variable {T : Tb}
attribute [local simp] k_seq k_block k_skip k_reg k_alt k_cond k_exit k_ret kf_nil kf_seq_n kf_seq_e kf_seq_r kf_blk_n kf_blk_e kf_blk_r kf_lp_n kf_lp_e kf_lp_r kf_cut_n kf_cut_e kf_cut_r mkTm VCops VCalt istep act gd applyE wrapD Opd.ev get_mk set_mk set_mk0 tget16 tset16 tget_0 tset_0 tget_1 tset_1 tget_2 tset_2 tget_3 tset_3 tget_4 tset_4 tget_5 tset_5 tget_6 tset_6 tget_7 tset_7 tget_8 tset_8 tget_9 tset_9 tget_10 tset_10 tget_11 tset_11 tget_12 tset_12 tget_13 tset_13 tget_14 tset_14 tget_15 tset_15 D.un D.gu gus IOp.opds binD fnPost getRes IRes.get oneRes D.out outL D.clos closL D.norow norowL D.lv lvL D.scal scalL D.cells D.cell D.cell' St.lk obPut obDel List.lookup cut pickD splice fillParts fillRows elem_cons newsOf D.pl D.forget forgetL Ob.forget forgetO eqCells sg leD leDL leOb apartK St.le D.keys keysL D.rows rowsL obKeys addKeys reach pos D.ren renL Ob.ren inM outM inObs outObs goneK apartN okNames_eq okNms obNms namesOK_nil namesOK_cons freeOK_nil freeOK_cons D.frz frzL Ob.frz frzO St.frz forgetLs dropObs putObs hcall freeOf keeps baseN shD isShift shMax k_bad VCopsG frz_nil actx actc cnum vwCut St.frzT St.opnT St.clsT D.opn opnL Ob.opn opnO
set_option maxRecDepth 100000 in
set_option maxHeartbeats 8000000 in
theorem v_sure (h1 : T.sp n_part_Hear = some sp_Hear) : Verified T ir_reredoskeep_HearSure_1 sp_sure := by
  refine Verified.mk ?_
  rintro ds ⟨s, k, n, rfl, hs, hf, hk, hn⟩
  rw [sure_F]
  have x1 : sp_Hear.hx = none := rfl
  have o0 : OkS s0 := (okS_iff _).1 okS_s0
  have n0 : fewN s0 90 := fewN_s0 90
  have hok := suM_ok hk hn
  have hE : hearE 1 3 1 0 (suM k n) = 0 := hear_zero hok rfl rfl (by omega) (by simp [suM])
  have f1 := hear_F 1 3 1 0 s s0 [] 6000 (suM k n)
  have p1 := hear_pre (S := 1) (P := 3) (l := 1) (me := 0) (m := suM k n) (ns := []) (by omega) (by omega) (by omega) (.inr ⟨rfl, .inr rfl, rfl⟩) hs o0 hf n0 (by simp) 6000
  rw [hearD, if_neg (by simp [hE]), hearA, if_neg (by simp [suM]), if_neg (by simp [suM]), if_pos (by simp [suM]), stillA, if_neg (by decide)] at f1
  generalize stillY s 1 (suM k n) = y at f1 ⊢
  clear hs hf hk hn o0 n0 hok hE
  obtain ⟨s1, s2, s3, s4⟩ := s
  simp only [stoC, twoC, s0, ansD, ansC, msgC, sureM, ansM, suM, List.map_nil, List.map_cons] at f1 p1 ⊢
  cases y
  all_goals
    simp (implicitDefEqProofs := false) (maxSteps := 10000000) [ir_reredoskeep_HearSure_1, h1, x1, f1, p1]
set_option maxRecDepth 100000 in
set_option maxHeartbeats 16000000 in
theorem v_HearSure (h1 : T.sp n_reredoskeep_Store = some sp_Store) (h2 : T.sp n_reredoskeep_picked = some sp_picked) (h3 : T.sp n_reredoskeep_two = some sp_two) (h4 : T.sp n_store_Check = some sp_SCheck) (h5 : T.sp n_store_Peek = some sp_Peek) (h6 : T.sp n_store_Write = some sp_Write) (h7 : T.sp n_store_End = some sp_End) (hc : T.sp n_reredoskeep_HearSure_1 = some sp_sure) : Verified T ir_reredoskeep_HearSure sp_HearSure := by
  refine Verified.mk ?_
  rintro ds ⟨l, key, v, rfl, hl, hkey, hv⟩
  have x1 : sp_Store.hx = none := rfl
  have x2 : sp_picked.hx = none := rfl
  have x3 : sp_two.hx = none := rfl
  have x4 : sp_SCheck.hx = none := rfl
  have x5 : sp_Peek.hx = none := rfl
  have x6 : sp_Write.hx = none := rfl
  have x7 : sp_End.hx = none := rfl
  have f1 : sp_Store.F [.fz 6 (l.map rawC), .int .i64 25] = _ := store_F l 25
  have p1 : sp_Store.pre [.fz 6 (l.map rawC), .int .i64 25] = True := store_pre hl (m := 25) (by decide)
  have hI := invK_store l (m := 25) (by decide)
  have hF := fewN_store l 25
  have hO := ovN_store l 25
  generalize storeK l 25 = s at f1 hI hF hO
  have b1 := pk_bounds key 8 (by decide)
  have q1 := pk_pre hkey (m := 8) (by decide)
  have q1' := pk_F key 8
  generalize pk key 8 = k at b1 q1'
  have b2 := pk_bounds v 99 (by decide)
  have q2 := pk_pre hv (m := 99) (by decide)
  have q2' := pk_F v 99
  generalize pk v 99 = V at b2 q2'
  have f2 := two_F 0
  have e2 : (1 : Int) + pk 0 3 = 1 := by decide
  rw [e2] at f2
  have p2 := two_pre (s := 0) (by simp [inR])
  have xc : sp_sure.hx = none := rfl
  have f3 := chk_F' hI.ok
  have p3 := chk_pre (fewS_of hF (by decide))
  have f4 := peek_F s k
  have p4 := peek_pre (fewN_fewS' hF (by decide)) k
  have f5 := write_F s (0, 6) k V 1
  have p5 := write_pre (fewN_fewS' hF (by decide)) (0, 6) k V 1
  rcases sure_plain hI hO b1 b2 with hw | ⟨u, w, z, was, n, hp, hn1, hn2, hw, hu, he1, hew, he2, hez, y1, y2, y3, y4⟩
  · rw [hw] at f5
    generalize peekS s k = r at f4
    obtain ⟨r1, r2, r3⟩ := r
    clear hI hF hO hw
    obtain ⟨s1, s2, s3, s4⟩ := s
    simp only [stoC, txC, twoC, s0, List.map_nil] at f1 f2 p2 f3 p3 f4 p4 f5 p5
    simp only [rawsD]
    simp (implicitDefEqProofs := false) (maxSteps := 10000000) [ir_reredoskeep_HearSure, h1, x1, h2, x2, h3, x3, h4, x4, h5, x5, h6, x6, h7, x7, f1, p1, f2, p2, f3, p3, f4, p4, f5, p5, q1, q1', q2, q2']
    all_goals exact rfl
  · have hFu : fewN u 26 := by
      have := fewN_write hF (0, 6) k V 1
      rw [hw] at this; exact this
    have hFw : fewN w 27 := by
      have := fewN_end hFu (0, 6) true
      rw [he1] at this; exact this
    have hFz : fewN z 27 := by
      have := fewN_end hFu (0, 6) false
      rw [he2] at this; exact this
    rw [hw] at f5
    rw [hp] at f4
    have f6 := end_F u (0, 6) true
    have p6 := end_pre (fewN_fewS' hFu (by decide)) (0, 6) true
    rw [he1] at f6
    have f7 := end_F u (0, 6) false
    have p7 := end_pre (fewN_fewS' hFu (by decide)) (0, 6) false
    rw [he2] at f7
    have g1 := sure_F s k n
    have gp1 := sure_pre hI.ok (fewN_mono hF (by decide)) b1 (n := n) (by omega)
    rw [y1] at g1
    have g2 := sure_F u k n
    have gp2 := sure_pre hu (fewN_mono hFu (by decide)) b1 (n := n) (by omega)
    rw [y2] at g2
    have g3 := sure_F w k n
    have gp3 := sure_pre hew (fewN_mono hFw (by decide)) b1 (n := n) (by omega)
    rw [y3] at g3
    have g4 := sure_F z k n
    have gp4 := sure_pre hez (fewN_mono hFz (by decide)) b1 (n := n) (by omega)
    rw [y4] at g4
    clear hI hF hO hw hp hu he1 hew he2 hez y1 y2 y3 y4 hFu hFw hFz
    obtain ⟨s1, s2, s3, s4⟩ := s
    obtain ⟨u1, u2, u3, u4⟩ := u
    obtain ⟨w1, w2, w3, w4⟩ := w
    obtain ⟨z1, z2, z3, z4⟩ := z
    simp only [n_reredoskeep_HearSure_1] at hc
    simp only [stoC, txC, twoC, msgC, suM] at f1 f2 p2 f3 p3 f4 p4 f5 p5 f6 p6 f7 p7 g1 gp1 g2 gp2 g3 gp3 g4 gp4
    simp only [rawsD]
    simp (implicitDefEqProofs := false) (maxSteps := 10000000) [ir_reredoskeep_HearSure, h1, x1, h2, x2, h3, x3, h4, x4, h5, x5, h6, x6, h7, x7, hc, xc, f1, p1, f2, p2, f3, p3, f4, p4, f5, p5, f6, p6, f7, p7, g1, gp1, g2, gp2, g3, gp3, g4, gp4, q1, q1', q2, q2']
    all_goals exact rfl
end
end Go.Proofs.YtilahimnineigaaDoor
