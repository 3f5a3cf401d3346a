/-
  RebuildStore answers true on data. Conditions: those of its specification's 'pre', and that the functions that are called are what theirs say.
-/
import Derived.Test.YtffpjlhlkakpaaaDoorRbC
set_option linter.unusedVariables false
set_option linter.unusedSimpArgs false
namespace Go.Proofs.YtffpjlhlkakpaaaDoor
open Go Go.Vcg

theorem write_gen {s : Sto} (h : OkS s) {t : Tx} (hnt : noTx s t) (ho : overB s t = false) (ht : okTx t.1 t.2 = true) {k v q : Int} (hk : 0 ≤ k ∧ k < 8) (hv : okVQ v q) (hb : (s.locks.any fun x => decide (x.key = k)) = false) (hl : s.locks.length < 24) (hver : (itemAt s.items k).version < 1048576) : writeS s t k v q = (addL s ⟨t.1, t.2, k, true, v, q⟩, 0) ∧ OkS (addL s ⟨t.1, t.2, k, true, v, q⟩) := by
  have hc := callE_ok ((okS_iff s).2 h) ht hk
  have hln := lockI_noTx hnt k
  have hbz := busy_noTx hnt k true
  simp only [Bool.true_or, Bool.and_true] at hbz
  rw [hb] at hbz
  constructor
  · rw [writeS, if_neg (by simp [hc]), if_neg (by simpa using hv), if_neg (by
      rintro (h' | ⟨h', _⟩)
      · rw [ho] at h'; cases h'
      · omega), if_neg (by simp [hbz]), if_neg (by
      rintro (⟨_, h'⟩ | h') <;> omega)]
    simp only [putL, if_pos hln]
    rfl
  · exact okS_lock h (t := t) (x := ⟨t.1, t.2, k, true, v, q⟩) ht ho ⟨rfl, rfl⟩ (lkR_of hk hv rfl) hl hln hbz
theorem again_plain {k V W : Int} (hk : 0 ≤ k ∧ k < 8) (hV : 0 ≤ V ∧ V < 99) (hW : 0 ≤ W ∧ W < 99) (yes : Bool) : ∃ s1 s2 s3 u, writeS s0 (0, 1) k V 1 = (s1, 0) ∧ endS s1 (0, 1) yes = (s2, 0) ∧ writeS s2 (0, 2) k W 1 = (s3, 0) ∧ endS s3 (0, 2) false = (u, 0) ∧ peekS u k = (if yes = true then V else 0, if yes = true then 1 else 0, 0) ∧ writesS s3 (0, 2) = (1, 0) := by
  have o0 : OkS s0 := (okS_iff _).1 okS_s0
  have hv1 : okVQ V 1 := ⟨by omega, by omega, by omega, by omega⟩
  have hw1 : okVQ W 1 := ⟨by omega, by omega, by omega, by omega⟩
  have i0 : itemAt ([] : List It) k = ⟨k, 0, 0⟩ := itemAt_none (by simp)
  obtain ⟨e1, ok1⟩ := write_gen o0 (t := (0, 1)) (k := k) (v := V) (q := 1) (by simp [noTx, s0]) (by simp [overB, s0]) (by decide) hk hv1 (by simp [s0]) (by simp [s0]) (by show (itemAt [] k).version < 1048576; rw [i0]; simp)
  have c1 : callE (addL s0 ⟨0, 1, k, true, V, 1⟩) (0, 1) 0 = 0 := callE_ok ((okS_iff _).2 ok1) (t := (0, 1)) (by decide) (by omega)
  have hl1 : ∀ x ∈ (addL s0 ⟨0, 1, k, true, V, 1⟩).locks, lkB 8 x := by
    intro x hx
    simp only [addL, s0, List.nil_append, List.mem_singleton] at hx
    subst hx
    exact ⟨hk.1, hk.2, by simp only; omega, by simp only; omega⟩
  have hi1 : ∀ x ∈ (addL s0 ⟨0, 1, k, true, V, 1⟩).items, itB 8 0 x := by simp [addL, s0]
  have ok2 := okS_end ok1 (t := (0, 1)) (by decide) yes (K := 8) (m := 0) (by omega) (by omega) hi1 hl1
  obtain ⟨srt2, its2⟩ := its_end (0, 1) yes (addL s0 ⟨0, 1, k, true, V, 1⟩).locks (addL s0 ⟨0, 1, k, true, V, 1⟩).items 0 ok1.sorted (by omega) hi1 hl1
  have e2 : endS (addL s0 ⟨0, 1, k, true, V, 1⟩) (0, 1) yes = ((endS (addL s0 ⟨0, 1, k, true, V, 1⟩) (0, 1) yes).1, 0) := by rw [endS, if_neg (by simp [c1])]
  have g1 : (endS (addL s0 ⟨0, 1, k, true, V, 1⟩) (0, 1) yes).1.items = endIts (0, 1) yes (addL s0 ⟨0, 1, k, true, V, 1⟩).locks (addL s0 ⟨0, 1, k, true, V, 1⟩).items := by rw [endS, if_neg (by simp [c1])]
  have g1' : (endS (addL s0 ⟨0, 1, k, true, V, 1⟩) (0, 1) yes).1.items = if yes = true then putIt [] k V else [] := by
    rw [g1]
    simp [addL, s0, endIts, stepE, isTx]
  have g2 : (endS (addL s0 ⟨0, 1, k, true, V, 1⟩) (0, 1) yes).1.locks = [] := by
    rw [endS, if_neg (by simp [c1])]
    simp [addL, s0, isTx]
  have g3 : (endS (addL s0 ⟨0, 1, k, true, V, 1⟩) (0, 1) yes).1.over = [(0, 1)] := by
    rw [endS, if_neg (by simp [c1])]
    simp [addL, s0, overL]
  rw [← g1] at srt2 its2
  generalize (endS (addL s0 ⟨0, 1, k, true, V, 1⟩) (0, 1) yes).1 = s2 at e2 ok2 srt2 its2 g1' g2 g3
  have srt0 : sortK ([] : List It) := by intro i j hi; simp at hi
  have hit : itemAt s2.items k = if yes = true then ⟨k, V, 1⟩ else ⟨k, 0, 0⟩ := by
    rw [g1']
    cases yes
    · simpa using i0
    · simp only [if_true, itemAt_put srt0, i0]
      rfl
  have hvr : (itemAt s2.items k).version < 1048576 := by
    rw [hit]; split <;> simp
  obtain ⟨e3, ok3⟩ := write_gen ok2 (t := (0, 2)) (k := k) (v := W) (q := 1) (by simp [noTx, g2]) (by simp [overB, g3, isTx]) (by decide) hk hw1 (by simp [g2]) (by simp [g2]) hvr
  have c3 : callE (addL s2 ⟨0, 2, k, true, W, 1⟩) (0, 2) 0 = 0 := callE_ok ((okS_iff _).2 ok3) (t := (0, 2)) (by decide) (by omega)
  have hl3 : ∀ x ∈ (addL s2 ⟨0, 2, k, true, W, 1⟩).locks, lkB 8 x := by
    intro x hx
    simp only [addL, g2, List.nil_append, List.mem_singleton] at hx
    subst hx
    exact ⟨hk.1, hk.2, by simp only; omega, by simp only; omega⟩
  have hi3 : ∀ x ∈ (addL s2 ⟨0, 2, k, true, W, 1⟩).items, itB 8 1 x := by
    intro x hx
    have := its2 x hx
    simpa [addL, s0] using this
  have ok4 := okS_end ok3 (t := (0, 2)) (by decide) false (K := 8) (m := 1) (by omega) (by omega) hi3 hl3
  have e4 : endS (addL s2 ⟨0, 2, k, true, W, 1⟩) (0, 2) false = ((endS (addL s2 ⟨0, 2, k, true, W, 1⟩) (0, 2) false).1, 0) := by rw [endS, if_neg (by simp [c3])]
  have g4 : (endS (addL s2 ⟨0, 2, k, true, W, 1⟩) (0, 2) false).1.items = s2.items := by
    rw [endS, if_neg (by simp [c3])]
    simp [addL, g2, endIts, stepE]
  have g5 : (endS (addL s2 ⟨0, 2, k, true, W, 1⟩) (0, 2) false).1.locks = [] := by
    rw [endS, if_neg (by simp [c3])]
    simp [addL, g2, isTx]
  generalize (endS (addL s2 ⟨0, 2, k, true, W, 1⟩) (0, 2) false).1 = u at e4 ok4 g4 g5
  refine ⟨_, _, _, u, e1, e2, e3, e4, ?_, ?_⟩
  · have hc : callE u (0, 1) k = 0 := callE_ok ((okS_iff u).2 ok4) (by simp [okTx]) hk
    rw [peekS, if_neg (by simp [hc]), if_neg (by simp [busyB, g5]), g4, hit]
    cases yes <;> simp
  · have hc : callE (addL s2 ⟨0, 2, k, true, W, 1⟩) (0, 2) 0 = 0 := c3
    have hn : wrN (addL s2 ⟨0, 2, k, true, W, 1⟩).locks (0, 2) = 1 := by simp [addL, g2, wrN, isTx]
    rw [writesS, if_neg (by simp [hc]), hn]
    rfl
def rs4 (k V W : Int) (yes : Bool) : List Rc := [⟨5, 0, 1, 0, 0, 0, false, []⟩, ⟨1, 0, 1, k, V, 1, false, []⟩, ⟨2, 0, 1, 0, 0, 0, yes, []⟩, ⟨1, 0, 2, k, W, 1, false, []⟩]
theorem rec_ok {r : Rc} (hk : 1 ≤ r.kind ∧ r.kind ≤ 6) (h1 : okNums 1 r) (h2 : r.sites = []) (h3 : okFormR r) : chkR 1 [(0, 0), (1, 0)] 3 r = 0 := by
  have hc := check_two (S := 1) (P := 3) (by omega) (by omega)
  have hu : okUpto 1 r.sites r.sites.length := by
    rw [h2]
    intro i hi
    simp at hi
  rw [chkR, if_neg (by simp [hc]), if_neg (by omega), if_neg (by simpa using h1), if_neg (by simpa using hu), if_neg (by simpa using h3)]
theorem okKey_of {k : Int} (h : 0 ≤ k ∧ k < 8) : okKey k = true := by
  rw [okKey, decide_eq_true h.1, decide_eq_true h.2]; rfl
theorem okVal_of {v : Int} (h : 0 ≤ v ∧ v ≤ 1073741824) : okVal v = true := by
  rw [okVal, decide_eq_true h.1, decide_eq_true h.2]; rfl
def sp_RebuildStore : Sp := { pre := fun ds => ∃ (key v w : Int) (yes : Bool), ds = [.int .i64 key, .int .i64 v, .int .i64 w, .bool yes] ∧ inR .i64 key ∧ inR .i64 v ∧ inR .i64 w, F := fun _ => .bool true }
section
variable {T : Tb}
attribute [local simp] k_seq k_block k_skip k_reg k_alt k_cond k_exit k_ret kf_nil kf_seq_n kf_seq_e kf_seq_r kf_blk_n kf_blk_e kf_blk_r kf_lp_n kf_lp_e kf_lp_r kf_cut_n kf_cut_e kf_cut_r mkTm VCops VCalt istep act gd applyE wrapD Opd.ev get_mk set_mk set_mk0 tget16 tset16 tget_0 tset_0 tget_1 tset_1 tget_2 tset_2 tget_3 tset_3 tget_4 tset_4 tget_5 tset_5 tget_6 tset_6 tget_7 tset_7 tget_8 tset_8 tget_9 tset_9 tget_10 tset_10 tget_11 tset_11 tget_12 tset_12 tget_13 tset_13 tget_14 tset_14 tget_15 tset_15 D.un D.gu gus IOp.opds binD fnPost getRes IRes.get oneRes D.out outL D.clos closL D.norow norowL D.lv lvL D.scal scalL D.cells D.cell D.cell' St.lk obPut obDel List.lookup cut pickD splice fillParts fillRows elem_cons newsOf D.pl D.forget forgetL Ob.forget forgetO eqCells sg leD leDL leOb apartK St.le D.keys keysL D.rows rowsL obKeys addKeys reach pos D.ren renL Ob.ren inM outM inObs outObs goneK apartN okNames_eq okNms obNms namesOK_nil namesOK_cons freeOK_nil freeOK_cons D.frz frzL Ob.frz frzO St.frz forgetLs dropObs putObs hcall freeOf keeps baseN shD isShift shMax k_bad VCopsG frz_nil actx actc cnum vwCut St.frzT St.opnT St.clsT D.opn opnL Ob.opn opnO
set_option maxRecDepth 100000 in
set_option maxHeartbeats 16000000 in
theorem v_RebuildStore (h1 : T.sp n_reredoskeep_picked = some sp_picked) (h2 : T.sp n_reredoskeep_two = some sp_two) (h3 : T.sp n_recover_Rebuild = some sp_Rebuild) (h4 : T.sp n_store_End = some sp_End) (h5 : T.sp n_store_Peek = some sp_Peek) (h6 : T.sp n_store_Writes = some sp_Writes) : Verified T ir_reredoskeep_RebuildStore sp_RebuildStore := by
  refine Verified.mk ?_
  rintro ds ⟨key, v, w, yes, rfl, hkey, hv, hw⟩
  have x1 : sp_picked.hx = none := rfl
  have x2 : sp_two.hx = none := rfl
  have x3 : sp_Rebuild.hx = none := rfl
  have x4 : sp_End.hx = none := rfl
  have x5 : sp_Peek.hx = none := rfl
  have x6 : sp_Writes.hx = none := rfl
  have b1 := pk_bounds key 8 (by decide)
  have q1 := pk_pre hkey (m := 8) (by decide)
  have q1' := pk_F key 8
  generalize pk key 8 = k at b1 q1'
  have b2 := pk_bounds v 99 (by decide)
  have q2 := pk_pre hv (m := 99) (by decide)
  have q2' := pk_F v 99
  generalize pk v 99 = V at b2 q2'
  have b3 := pk_bounds w 99 (by decide)
  have q3 := pk_pre hw (m := 99) (by decide)
  have q3' := pk_F w 99
  generalize pk w 99 = W at b3 q3'
  have f2 := two_F 0
  have e2 : (1 : Int) + pk 0 3 = 1 := by decide
  rw [e2] at f2
  have p2 := two_pre (s := 0) (by simp [inR])
  obtain ⟨s1, s2, s3, u, e1, e2', e3, e4, e5, e6⟩ := again_plain b1 b2 b3 yes
  have n1 : fewN s1 1 := by
    have := fewN_write (fewN_s0 0) (0, 1) k V 1
    rw [e1] at this; exact this
  have n2 : fewN s2 2 := by
    have := fewN_end n1 (0, 1) yes
    rw [e2'] at this; exact this
  have n3 : fewN s3 3 := by
    have := fewN_write n2 (0, 2) k W 1
    rw [e3] at this; exact this
  have n4 : fewN u 4 := by
    have := fewN_end n3 (0, 2) false
    rw [e4] at this; exact this
  have m0 : memAt (rs4 k V W yes) 0 = ⟨s0, 1⟩ := rfl
  have m1 : memAt (rs4 k V W yes) 1 = ⟨s0, 2⟩ := by
    rw [memAt_succ _ (by simp [rs4]), m0]
    rfl
  have m2 : memAt (rs4 k V W yes) 2 = ⟨s1, 2⟩ := by
    rw [memAt_succ _ (by simp [rs4]), m1]
    show memStep ⟨s0, 2⟩ ⟨1, 0, 1, k, V, 1, false, []⟩ = _
    rw [memStep, if_pos rfl]
    simp only [e1]
  have m3 : memAt (rs4 k V W yes) 3 = ⟨s2, 2⟩ := by
    rw [memAt_succ _ (by simp [rs4]), m2]
    show memStep ⟨s1, 2⟩ ⟨2, 0, 1, 0, 0, 0, yes, []⟩ = _
    rw [memStep, if_neg (by simp), if_pos rfl]
    simp only [e2']
  have m4 : memAt (rs4 k V W yes) 4 = ⟨s3, 2⟩ := by
    rw [memAt_succ _ (by simp [rs4]), m3]
    show memStep ⟨s2, 2⟩ ⟨1, 0, 2, k, W, 1, false, []⟩ = _
    rw [memStep, if_pos rfl]
    simp only [e3]
  have hall : ∀ j (h : j < (rs4 k V W yes).length), memOk (memAt (rs4 k V W yes) j) (rs4 k V W yes)[j] ∧ chkR 1 [(0, 0), (1, 0)] 3 (rs4 k V W yes)[j] = 0 := by
    intro j h
    have h4 : j < 4 := h
    have hj : j = 0 ∨ j = 1 ∨ j = 2 ∨ j = 3 := by omega
    rcases hj with rfl | rfl | rfl | rfl
    · rw [m0]
      refine ⟨⟨fewN_fewS' (fewN_s0 0) (by decide), rfl, by simp [rs4], by simp [rs4], .inr (.inr ⟨rfl, rfl⟩)⟩, rec_ok (by simp [rs4]) ⟨rfl, rfl, rfl, rfl⟩ rfl ?_⟩
      simp [okFormR, rs4, rp, rparts]
    · rw [m1]
      refine ⟨⟨fewN_fewS' (fewN_s0 0) (by decide), rfl, by simp [rs4], by simp [rs4], .inl ⟨rfl, ?_⟩⟩, rec_ok (by simp [rs4]) ⟨rfl, okKey_of b1, okVal_of (by show 0 ≤ V ∧ V ≤ 1073741824; omega), rfl⟩ rfl ?_⟩
      · show (writeS s0 (0, 1) k V 1).2 = 0
        rw [e1]
      · simp [okFormR, rs4, rp, rparts]
    · rw [m2]
      refine ⟨⟨fewN_fewS' n1 (by decide), rfl, by simp [rs4], by simp [rs4], .inr (.inl ⟨rfl, ?_⟩)⟩, rec_ok (by simp [rs4]) ⟨rfl, rfl, rfl, rfl⟩ rfl ?_⟩
      · show (endS s1 (0, 1) yes).2 = 0
        rw [e2']
      · simp [okFormR, rs4, rp, rparts]
    · rw [m3]
      refine ⟨⟨fewN_fewS' n2 (by decide), rfl, by simp [rs4], by simp [rs4], .inl ⟨rfl, ?_⟩⟩, rec_ok (by simp [rs4]) ⟨rfl, okKey_of b1, okVal_of (by show 0 ≤ W ∧ W ≤ 1073741824; omega), rfl⟩ rfl ?_⟩
      · show (writeS s2 (0, 2) k W 1).2 = 0
        rw [e3]
      · simp [okFormR, rs4, rp, rparts]
  have f3 := rebuild_F (rs4 k V W yes)
  have p3 := rebuild_pre hall (by show 4 ≤ 100; decide)
  have hl4 : (rs4 k V W yes).length = 4 := rfl
  rw [hl4, m4] at f3
  have f4 := end_F s3 (0, 2) false
  have p4 := end_pre (fewN_fewS' n3 (by decide)) (0, 2) false
  rw [e4] at f4
  have f5 := peek_F u k
  have p5 := peek_pre (fewN_fewS' n4 (by decide)) k
  rw [e5] at f5
  have f6 := writes_F s3 (0, 2)
  have p6 := writes_pre (fewN_fewS' n3 (by decide)) (0, 2)
  rw [e6] at f6
  clear hall e1 e2' e3 e4 e5 e6 n1 n2 n3 n4 m0 m1 m2 m3 m4 hl4
  obtain ⟨a1, a2, a3, a4⟩ := s3
  obtain ⟨u1, u2, u3, u4⟩ := u
  simp only [rs4, recC, stoC, txC, twoC, List.map_cons, List.map_nil] at f2 p2 f3 p3 f4 p4 f5 p5 f6 p6
  cases yes
  all_goals
    simp only [Bool.false_eq_true, if_false, if_true] at f5
    simp (implicitDefEqProofs := false) (maxSteps := 10000000) [ir_reredoskeep_RebuildStore, h1, x1, h2, x2, h3, x3, h4, x4, h5, x5, h6, x6, f2, p2, f3, p3, f4, p4, f5, p5, f6, p6, q1, q1', q2, q2', q3, q3']
    all_goals exact rfl
end
end Go.Proofs.YtffpjlhlkakpaaaDoor
