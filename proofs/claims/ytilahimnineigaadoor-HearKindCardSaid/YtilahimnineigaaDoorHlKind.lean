/-
  HearKind answers true on data. Conditions: those of its specification's 'pre', and that the functions that are called are what theirs say.
-/
import Derived.Test.YtilahimnineigaaDoorPtJ
set_option linter.unusedVariables false
set_option linter.unusedSimpArgs false
namespace Go.Proofs.YtilahimnineigaaDoor
open Go Go.Vcg

def sp_HearKind : Sp := { pre := fun ds => ∃ (sn : Int) (l : List Rw) (r : Rw) (me : Int), ds = [.int .i64 sn, rawsD l, rawD r, .int .i64 me] ∧ inR .i64 sn ∧ okRaws l ∧ okRaw r ∧ inR .i64 me, F := fun _ => .bool true }
theorem chk_of {S : Int} {m : Ms} (hS : 1 ≤ S ∧ S ≤ 4) (hk : 1 ≤ m.kind ∧ m.kind ≤ 9) (hr : okRange S 2 m) (hf : okForm m) : chkM S [(0, 0), (1, 0)] 3 m = 0 := by
  have hc := check_two (S := S) (P := 3) hS (by omega)
  rw [chkM, if_neg (by simp [hc]), if_neg (by omega), if_neg (by simpa using hr), if_neg (by simpa using hf)]
theorem item_range {s : Sto} (h : OkS s) (k : Int) : 0 ≤ (itemAt s.items k).value ∧ (itemAt s.items k).value ≤ 1073741824 ∧ 0 ≤ (itemAt s.items k).version ∧ (itemAt s.items k).version ≤ 1048576 := by
  rcases itemAt_cases h.sorted k with ⟨_, _, e⟩ | ⟨_, e, _⟩
  · rw [e]; simp
  · have := okIt_itB (h.items _ e)
    simp only [itB] at this
    omega
theorem read_range {s : Sto} (h : OkS s) (t : Tx) (k : Int) : 0 ≤ (readS s t k).2.1 ∧ (readS s t k).2.1 ≤ 1073741824 ∧ 0 ≤ (readS s t k).2.2.1 ∧ (readS s t k).2.2.1 ≤ 1048576 := by
  have hi := item_range h k
  unfold readS
  split
  · simp
  split
  · rename_i h1
    obtain ⟨i, _, hi', _, _, _, e⟩ := lockAt_spec h1
    split
    · rw [e]
      have hl := (okLk_iff.1 (h.locks _ (List.getElem_mem hi'))).2
      simp only [lkR, Bool.and_eq_true, decide_eq_true_eq] at hl
      simp only
      omega
    · simp only; omega
  split
  · simp
  split
  · simp
  split
  · simp
  · simp only; omega
theorem read_code (s : Sto) (t : Tx) (k : Int) (h : refB (readS s t k).2.2.2 = true) : okCode (readS s t k).2.2.2 = true := by
  simp only [refB, okCode, Bool.or_eq_true, beq_iff_eq] at h ⊢
  omega
/-- What is answered may be. -/
def ansOk (S k : Int) (m : Ms) (A : Ans) : Prop := OkS A.1 ∧ A.2.1.length ≤ 1 ∧ ∀ x ∈ A.2.1, x.frm = k ∧ x.to = m.frm ∧ x.site = m.site ∧ x.n = m.n ∧ chkM S [(0, 0), (1, 0)] 3 x = 0
theorem okVal_of2 {v : Int} (h : 0 ≤ v ∧ v ≤ 1073741824) : okVal v = true := by
  rw [okVal, decide_eq_true h.1, decide_eq_true h.2]; rfl
theorem kind_plain {n : Nat} {s : Sto} (h : InvK n s) (hn : n ≤ 100) {S k : Int} {m : Ms} (hS : 1 ≤ S ∧ S ≤ 3) (hk : 0 ≤ k ∧ k < S) (hr : okRange S 2 m) : ansOk S k m (hearA 0 k s s0 [] 6000 m).1 := by
  obtain ⟨r1, r2, r3, r4, r5, r6, r7, r8, r9, r10, r11, r12, r13⟩ := hr
  have r5' := r5
  simp only [okTxn, Bool.and_eq_true, decide_eq_true_eq] at r5'
  have ht : okTx m.site m.n = true := okTx_of (t := (m.site, m.n)) (by simp only; omega) (by simp only; omega)
  have hS4 : 1 ≤ S ∧ S ≤ 4 := by omega
  rw [hearA]
  split
  · simp only [readA, if_pos, outR]
    split
    · rename_i e0
      refine ⟨okS_read h.ok e0, by simp, ?_⟩
      intro x hx
      simp only [List.mem_singleton] at hx
      subst hx
      obtain ⟨v1, v2, v3, v4⟩ := read_range h.ok (m.site, m.n) m.key
      refine ⟨rfl, rfl, rfl, rfl, chk_of hS4 (by simp [gotM, ansM]) ⟨hk.1, hk.2, r1, r2, r5, r6, r7, r8, ?_, v3, v4, r12, rfl⟩ ?_⟩
      · exact okVal_of2 ⟨v1, v2⟩
      · simp [okForm, gotM, ansM, pt, parts]
    split
    · rename_i hf
      refine ⟨h.ok, by simp, ?_⟩
      intro x hx
      simp only [List.mem_singleton] at hx
      subst hx
      refine ⟨rfl, rfl, rfl, rfl, chk_of hS4 (by simp [gotM, ansM]) ⟨hk.1, hk.2, r1, r2, r5, r6, r7, r8, rfl, by simp [gotM, ansM], by simp [gotM, ansM], r12, read_code _ _ _ hf⟩ ?_⟩
      simp [okForm, gotM, ansM, pt, parts]
    · exact ⟨h.ok, by simp, by simp⟩
  split
  · simp only [writeA]
    split
    · rename_i e0
      have e1 : (writeS s (m.site, m.n) m.key m.value m.ask).2 = 0 := by
        unfold writeE at e0
        split at e0
        · cases e0
        · exact e0
      refine ⟨okS_write h.ok e1, by simp, ?_⟩
      intro x hx
      simp only [List.mem_singleton] at hx
      subst hx
      refine ⟨rfl, rfl, rfl, rfl, chk_of hS4 (by simp [doneM, ansM]) ⟨hk.1, hk.2, r1, r2, r5, by simp [doneM, ansM], by simp [doneM, ansM], r8, rfl, by simp [doneM, ansM], by simp [doneM, ansM], r12, rfl⟩ ?_⟩
      simp [okForm, doneM, ansM, pt, parts]
    split
    · rename_i hf
      refine ⟨h.ok, by simp, ?_⟩
      intro x hx
      simp only [List.mem_singleton] at hx
      subst hx
      refine ⟨rfl, rfl, rfl, rfl, chk_of hS4 (by simp [doneM, ansM]) ⟨hk.1, hk.2, r1, r2, r5, by simp [doneM, ansM], by simp [doneM, ansM], r8, rfl, by simp [doneM, ansM], by simp [doneM, ansM], r12, ?_⟩ ?_⟩
      · simp only [refB, okCode, doneM, Bool.or_eq_true, beq_iff_eq] at hf ⊢
        omega
      · simp [okForm, doneM, ansM, pt, parts]
    · exact ⟨h.ok, by simp, by simp⟩
  split
  · simp only [stillA, if_pos]
    refine ⟨h.ok, by simp, ?_⟩
    intro x hx
    simp only [List.mem_singleton] at hx
    subst hx
    refine ⟨rfl, rfl, rfl, rfl, chk_of hS4 (by simp [sureM, ansM]) ⟨hk.1, hk.2, r1, r2, r5, r6, r7, r8, rfl, r10, r11, rfl, rfl⟩ ?_⟩
    simp [okForm, sureM, ansM, pt, parts]
  · simp only [decA]
    refine ⟨okS_end h.ok (t := (m.site, m.n)) ht m.yes (K := 5) (m := (24 * n : Nat)) (by omega) (by omega) h.its (fun x hx => (h.lks x hx).1), by simp, ?_⟩
    intro x hx
    simp only [List.mem_singleton] at hx
    subst hx
    refine ⟨rfl, rfl, rfl, rfl, chk_of hS4 (by simp [ansM]) ⟨hk.1, hk.2, r1, r2, r5, by simp [ansM], by simp [ansM], rfl, rfl, by simp [ansM], by simp [ansM], rfl, rfl⟩ ?_⟩
    simp [okForm, ansM, pt, parts]
theorem message_F (S : Int) (r : Rw) : sp_Message.F [.agg (twoC S 3), .agg (rawC r)] = .agg (msgC (mkMsg S 2 r)) := by
  have e : D.agg (twoC S 3) = cfgD S [(0, 0), (1, 0)] 3 := rfl
  have e2 : D.agg (rawC r) = rawD r := rfl
  simp only [e, e2, sp_Message, cfgOf_cfgD, rawOf_rawD]
  rfl
theorem message_pre {S : Int} {r : Rw} (hS : 1 ≤ S ∧ S ≤ 4) (h : okRaw r) : sp_Message.pre [.agg (twoC S 3), .agg (rawC r)] = True := by
  simp only [sp_Message, eq_iff_iff, iff_true]
  exact ⟨_, r, rfl, ⟨rfl, hS.1, hS.2, (by show 1 ≤ 2; decide), (by show 2 ≤ 6; decide)⟩, h⟩
section
variable {T : Tb}
attribute [local simp] k_seq k_block k_skip k_reg k_alt k_cond k_exit k_ret kf_nil kf_seq_n kf_seq_e kf_seq_r kf_blk_n kf_blk_e kf_blk_r kf_lp_n kf_lp_e kf_lp_r kf_cut_n kf_cut_e kf_cut_r mkTm VCops VCalt istep act gd applyE wrapD Opd.ev get_mk set_mk set_mk0 tget16 tset16 tget_0 tset_0 tget_1 tset_1 tget_2 tset_2 tget_3 tset_3 tget_4 tset_4 tget_5 tset_5 tget_6 tset_6 tget_7 tset_7 tget_8 tset_8 tget_9 tset_9 tget_10 tset_10 tget_11 tset_11 tget_12 tset_12 tget_13 tset_13 tget_14 tset_14 tget_15 tset_15 D.un D.gu gus IOp.opds binD fnPost getRes IRes.get oneRes D.out outL D.clos closL D.norow norowL D.lv lvL D.scal scalL D.cells D.cell D.cell' St.lk obPut obDel List.lookup cut pickD splice fillParts fillRows elem_cons newsOf D.pl D.forget forgetL Ob.forget forgetO eqCells sg leD leDL leOb apartK St.le D.keys keysL D.rows rowsL obKeys addKeys reach pos D.ren renL Ob.ren inM outM inObs outObs goneK apartN okNames_eq okNms obNms namesOK_nil namesOK_cons freeOK_nil freeOK_cons D.frz frzL Ob.frz frzO St.frz forgetLs dropObs putObs hcall freeOf keeps baseN shD isShift shMax k_bad VCopsG frz_nil actx actc cnum vwCut St.frzT St.opnT St.clsT D.opn opnL Ob.opn opnO
set_option maxRecDepth 100000 in
set_option maxHeartbeats 16000000 in
theorem v_HearKind (h1 : T.sp n_reredoskeep_Store = some sp_Store) (h2 : T.sp n_reredoskeep_picked = some sp_picked) (h3 : T.sp n_reredoskeep_two = some sp_two) (h4 : T.sp n_part_Hear = some sp_Hear) (h5 : T.sp n_store_Check = some sp_SCheck) (h6 : T.sp n_reredoskeep_Message = some sp_Message) (h7 : T.sp n_wire_CheckMessage = some sp_CheckMessage) : Verified T ir_reredoskeep_HearKind sp_HearKind := by
  refine Verified.mk ?_
  rintro ds ⟨sn, l, r, me, rfl, hsn, hl, hr, hme⟩
  have x1 : sp_Store.hx = none := rfl
  have x2 : sp_picked.hx = none := rfl
  have x3 : sp_two.hx = none := rfl
  have x4 : sp_Hear.hx = none := rfl
  have x5 : sp_SCheck.hx = none := rfl
  have x6 : sp_Message.hx = none := rfl
  have x7 : sp_CheckMessage.hx = none := rfl
  have f1 : sp_Store.F [.fz 6 (l.map rawC), .int .i64 20] = _ := store_F l 20
  have p1 : sp_Store.pre [.fz 6 (l.map rawC), .int .i64 20] = True := store_pre hl (m := 20) (by decide)
  have hI := invK_store l (m := 20) (by decide)
  have hF := fewN_store l 20
  generalize storeK l 20 = s at f1 hI hF
  have o0 : OkS s0 := (okS_iff _).1 okS_s0
  have n0 : fewN s0 90 := fewN_s0 90
  have f2 := two_F sn
  have p2 := two_pre hsn
  have b1 := pk_bounds sn 3 (by decide)
  generalize hS : 1 + pk sn 3 = S at f2
  have bS : 1 ≤ S ∧ S ≤ 3 := by omega
  have b2 := pk_bounds me S (by omega)
  have q1 := pk_pre hme (m := S) (by omega)
  have q1' := pk_F me S
  generalize pk me S = k at b2 q1'
  have f3 := message_F S r
  have p3 := message_pre (S := S) (by omega) hr
  have hok := mkMsg_ok S 3 [(0, 0), (1, 0)] r (check_two (by omega) (by omega)) (by omega) (by simp)
  have e2 : (([(0, 0), (1, 0)] : List (Int × Int)).length : Int) = 2 := rfl
  rw [e2] at hok
  have hkd := mkMsg_kind S 2 r
  have hkb := pk_bounds r.k 9 (by decide)
  generalize mkMsg S 2 r = m at f3 hok hkd
  obtain ⟨hrg, -, -, -⟩ := chkM_zero hok
  have f4 := hear_F S 3 0 k s s0 [] 6000 m
  have p4 := hear_pre (S := S) (P := 3) (l := 0) (me := k) (m := m) (ns := []) (by omega) (by omega) b2 (.inl rfl) hI.ok o0 (fewN_mono hF (by decide)) n0 (by simp) 6000
  rw [hearD] at f4
  by_cases c2 : m.to = k
  · by_cases c4 : m.kind > 4
    · have hE : hearE S 3 0 k m = 3 := by rw [hearE, if_neg (by simp [hok]), if_neg (by simp [c2]), if_neg (by omega), if_neg (by omega)]
      rw [hE, if_pos (by decide)] at f4
      clear hI hF hE hok hkd hrg o0 n0 hS
      obtain ⟨s1, s2, s3, s4⟩ := s
      obtain ⟨m1, m2, m3, m4, m5, m6, m7, m8, m9, m10, m11, m12⟩ := m
      obtain ⟨r1, r2, r3, r4, r5, r6⟩ := r
      simp only at c2 c4
      subst c2
      simp only [stoC, txC, twoC, s0, ansC, msgC, rawC, List.map_nil] at f1 f2 p2 f3 p3 f4 p4
      simp only [rawsD, rawD, rawC]
      simp (implicitDefEqProofs := false) (maxSteps := 10000000) [ir_reredoskeep_HearKind, h1, x1, h2, x2, h3, x3, h4, x4, h5, x5, h6, x6, h7, x7, f1, p1, f2, p2, f3, p3, f4, p4, q1, q1', c4]
      all_goals exact rfl
    · by_cases c5 : (m.kind = 1 ∨ m.kind = 3) ∧ m.label = 1
      · have hE : hearE S 3 0 k m = 10 := by rw [hearE, if_neg (by simp [hok]), if_neg (by simp [c2]), if_pos (by omega)]
        rw [hE, if_pos (by decide)] at f4
        clear hI hF hE hok hkd hrg o0 n0 hS
        obtain ⟨s1, s2, s3, s4⟩ := s
        obtain ⟨m1, m2, m3, m4, m5, m6, m7, m8, m9, m10, m11, m12⟩ := m
        obtain ⟨r1, r2, r3, r4, r5, r6⟩ := r
        simp only at c2 c4 c5
        obtain ⟨c5, c6⟩ := c5
        subst c2
        simp only [stoC, txC, twoC, s0, ansC, msgC, rawC, List.map_nil] at f1 f2 p2 f3 p3 f4 p4
        simp only [rawsD, rawD, rawC]
        subst c6
        rcases c5 with rfl | rfl
        · simp (implicitDefEqProofs := false) (maxSteps := 10000000) [ir_reredoskeep_HearKind, h1, x1, h2, x2, h3, x3, h4, x4, h5, x5, h6, x6, h7, x7, f1, p1, f2, p2, f3, p3, f4, p4, q1, q1', c4]
          all_goals exact rfl
        · simp (implicitDefEqProofs := false) (maxSteps := 10000000) [ir_reredoskeep_HearKind, h1, x1, h2, x2, h3, x3, h4, x4, h5, x5, h6, x6, h7, x7, f1, p1, f2, p2, f3, p3, f4, p4, q1, q1', c4]
          all_goals exact rfl
      · have hlab := hrg.2.2.2.2.2
        have hE : hearE S 3 0 k m = 0 := by
          rw [hearE, if_neg (by simp [hok]), if_neg (by simp [c2]), if_neg (by omega), if_pos (by omega)]
        rw [hE, if_neg (by decide)] at f4
        obtain ⟨a1, a2, a3⟩ := kind_plain hI (by decide) bS b2 hrg
        have hFA : fewN (hearA 0 k s s0 [] 6000 m).1.1 91 := by
          have fs90 := fewN_mono hF (by decide : 20 ≤ 90)
          rw [hearA]
          split
          · exact fewN_readA fs90 n0 0 k m
          split
          · exact fewN_writeA fs90 k 6000 m
          split
          · simp only [stillA, if_pos]; exact fewN_mono fs90 (by decide)
          · exact fewN_end fs90 _ _
        have f5 := chk_F' a1
        have p5 := chk_pre (fewS_of hFA (by decide))
        have hN : (hearA 0 k s s0 [] 6000 m).2 = [] := by
          rw [hearA]
          split
          · rfl
          split
          · rfl
          split
          · rfl
          · rfl
        rw [hN] at f4
        generalize (hearA 0 k s s0 [] 6000 m).1 = A at f4 a1 a2 a3 f5 p5 hFA
        obtain ⟨u, ms, rs⟩ := A
        have f6 := fun x => cmsg_F S 3 x
        have p6 := fun x => cmsg_pre S 3 x
        clear hI hF hE hok hkd hrg o0 n0 hS hlab a1 hFA hN
        simp only at a2 a3
        obtain ⟨s1, s2, s3, s4⟩ := s
        obtain ⟨u1, u2, u3, u4⟩ := u
        obtain ⟨m1, m2, m3, m4, m5, m6, m7, m8, m9, m10, m11, m12⟩ := m
        obtain ⟨r1, r2, r3, r4, r5, r6⟩ := r
        simp only at c2 c4 c5 a3
        simp only [stoC, txC, twoC, s0, ansD, ansC, msgC, rawC, List.map_nil] at f1 f2 p2 f3 p3 f4 p4 f5 p5
        simp only [twoC] at f6 p6
        simp only [rawsD, rawD, rawC]
        have a2' : ¬ (1 : Int) < ms.length := by omega
        have c5a : m1 = 1 → ¬ m6 = 1 := fun h h' => c5 ⟨.inl h, h'⟩
        have c5b : m1 = 3 → ¬ m6 = 1 := fun h h' => c5 ⟨.inr h, h'⟩
        subst c2
        have hall : ∀ (P : St → Prop), True := fun _ => trivial
        have hc : (m1 = 1 ∨ m1 = 3) ∨ (¬ m1 = 1 ∧ ¬ m1 = 3) := by omega
        rcases hc with hc | ⟨hc1, hc2⟩
        · rcases hc with rfl | rfl
          · have c6 := c5a rfl
            simp (implicitDefEqProofs := false) (maxSteps := 10000000) [ir_reredoskeep_HearKind, h1, x1, h2, x2, h3, x3, h4, x4, h5, x5, h6, x6, h7, x7, f1, p1, f2, p2, f3, p3, f4, p4, q1, q1', c4, c6, f5, p5, a2']
            refine k_loop (ι := {j : Nat // j ≤ ms.length}) (fun x => ⟨mkTm 110 0 [(9, .own 9 0), (10, .own 10 0), (11, .int .i64 m3), (79, .fz 12 (ms.map msgC)), (80, .int .i64 ms.length), (81, .int .i64 x.1)], [(9, .box [.int .i64 S, .fz 2 [[.int .i64 0, .int .i64 0], [.int .i64 1, .int .i64 0]], .int .i64 3]), (10, .box [.int .i64 1, .int .i64 m2, .int .i64 m3, .int .i64 m4, .int .i64 m5, .int .i64 m6, .int .i64 m7, .int .i64 m8, .int .i64 m9, .int .i64 m10, .bool m11, .int .i64 m12])]⟩)
              (fun x => ms.length - x.1) [] ⟨0, by omega⟩ (by simp (implicitDefEqProofs := false) (maxSteps := 10000000)) ?_
            rintro ⟨j, hj⟩ Q hQ
            by_cases hjl : j < ms.length
            · have hjl' : (j : Int) < ms.length := by omega
              have hel := elem_map msgC ms j hjl
              obtain ⟨g1, g2, g3, g4, g5⟩ := a3 _ (List.getElem_mem hjl)
              have g6 := f6 ms[j]
              have g7 := p6 ms[j]
              rw [g5] at g6
              clear g5 f6 p6
              generalize ms[j] = x at hel g1 g2 g3 g4 g6 g7
              obtain ⟨y1, y2, y3, y4, y5, y6, y7, y8, y9, y10, y11, y12⟩ := x
              simp only at g1 g2 g3 g4
              subst g1 g2 g3 g4
              simp only [msgC] at hel g6 g7
              simp (implicitDefEqProofs := false) (maxSteps := 10000000) [ir_reredoskeep_HearKind_b0, hjl', hjl, hel, h7, x7, g6, g7]
              exact ⟨by simp only [inR]; omega, hQ _ [] ⟨j + 1, by omega⟩ (by simp (implicitDefEqProofs := false) (maxSteps := 10000000)) (by simp only; omega)⟩
            · have hjn : j = ms.length := by omega
              subst hjn
              clear hQ
              simp (implicitDefEqProofs := false) (maxSteps := 10000000) [ir_reredoskeep_HearKind_b0, ir_reredoskeep_HearKind_r1]
              all_goals exact rfl
          · have c6 := c5b rfl
            simp (implicitDefEqProofs := false) (maxSteps := 10000000) [ir_reredoskeep_HearKind, h1, x1, h2, x2, h3, x3, h4, x4, h5, x5, h6, x6, h7, x7, f1, p1, f2, p2, f3, p3, f4, p4, q1, q1', c4, c6, f5, p5, a2']
            refine k_loop (ι := {j : Nat // j ≤ ms.length}) (fun x => ⟨mkTm 110 0 [(9, .own 9 0), (10, .own 10 0), (11, .int .i64 m3), (79, .fz 12 (ms.map msgC)), (80, .int .i64 ms.length), (81, .int .i64 x.1)], [(9, .box [.int .i64 S, .fz 2 [[.int .i64 0, .int .i64 0], [.int .i64 1, .int .i64 0]], .int .i64 3]), (10, .box [.int .i64 3, .int .i64 m2, .int .i64 m3, .int .i64 m4, .int .i64 m5, .int .i64 m6, .int .i64 m7, .int .i64 m8, .int .i64 m9, .int .i64 m10, .bool m11, .int .i64 m12])]⟩)
              (fun x => ms.length - x.1) [] ⟨0, by omega⟩ (by simp (implicitDefEqProofs := false) (maxSteps := 10000000)) ?_
            rintro ⟨j, hj⟩ Q hQ
            by_cases hjl : j < ms.length
            · have hjl' : (j : Int) < ms.length := by omega
              have hel := elem_map msgC ms j hjl
              obtain ⟨g1, g2, g3, g4, g5⟩ := a3 _ (List.getElem_mem hjl)
              have g6 := f6 ms[j]
              have g7 := p6 ms[j]
              rw [g5] at g6
              clear g5 f6 p6
              generalize ms[j] = x at hel g1 g2 g3 g4 g6 g7
              obtain ⟨y1, y2, y3, y4, y5, y6, y7, y8, y9, y10, y11, y12⟩ := x
              simp only at g1 g2 g3 g4
              subst g1 g2 g3 g4
              simp only [msgC] at hel g6 g7
              simp (implicitDefEqProofs := false) (maxSteps := 10000000) [ir_reredoskeep_HearKind_b0, hjl', hjl, hel, h7, x7, g6, g7]
              exact ⟨by simp only [inR]; omega, hQ _ [] ⟨j + 1, by omega⟩ (by simp (implicitDefEqProofs := false) (maxSteps := 10000000)) (by simp only; omega)⟩
            · have hjn : j = ms.length := by omega
              subst hjn
              clear hQ
              simp (implicitDefEqProofs := false) (maxSteps := 10000000) [ir_reredoskeep_HearKind_b0, ir_reredoskeep_HearKind_r1]
              all_goals exact rfl
        · simp (implicitDefEqProofs := false) (maxSteps := 10000000) [ir_reredoskeep_HearKind, h1, x1, h2, x2, h3, x3, h4, x4, h5, x5, h6, x6, h7, x7, f1, p1, f2, p2, f3, p3, f4, p4, q1, q1', c4, hc1, hc2, f5, p5, a2']
          refine k_loop (ι := {j : Nat // j ≤ ms.length}) (fun x => ⟨mkTm 110 0 [(9, .own 9 0), (10, .own 10 0), (11, .int .i64 m3), (79, .fz 12 (ms.map msgC)), (80, .int .i64 ms.length), (81, .int .i64 x.1)], [(9, .box [.int .i64 S, .fz 2 [[.int .i64 0, .int .i64 0], [.int .i64 1, .int .i64 0]], .int .i64 3]), (10, .box [.int .i64 m1, .int .i64 m2, .int .i64 m3, .int .i64 m4, .int .i64 m5, .int .i64 m6, .int .i64 m7, .int .i64 m8, .int .i64 m9, .int .i64 m10, .bool m11, .int .i64 m12])]⟩)
            (fun x => ms.length - x.1) [] ⟨0, by omega⟩ (by simp (implicitDefEqProofs := false) (maxSteps := 10000000)) ?_
          rintro ⟨j, hj⟩ Q hQ
          by_cases hjl : j < ms.length
          · have hjl' : (j : Int) < ms.length := by omega
            have hel := elem_map msgC ms j hjl
            obtain ⟨g1, g2, g3, g4, g5⟩ := a3 _ (List.getElem_mem hjl)
            have g6 := f6 ms[j]
            have g7 := p6 ms[j]
            rw [g5] at g6
            clear g5 f6 p6
            generalize ms[j] = x at hel g1 g2 g3 g4 g6 g7
            obtain ⟨y1, y2, y3, y4, y5, y6, y7, y8, y9, y10, y11, y12⟩ := x
            simp only at g1 g2 g3 g4
            subst g1 g2 g3 g4
            simp only [msgC] at hel g6 g7
            simp (implicitDefEqProofs := false) (maxSteps := 10000000) [ir_reredoskeep_HearKind_b0, hjl', hjl, hel, h7, x7, g6, g7]
            exact ⟨by simp only [inR]; omega, hQ _ [] ⟨j + 1, by omega⟩ (by simp (implicitDefEqProofs := false) (maxSteps := 10000000)) (by simp only; omega)⟩
          · have hjn : j = ms.length := by omega
            subst hjn
            clear hQ
            simp (implicitDefEqProofs := false) (maxSteps := 10000000) [ir_reredoskeep_HearKind_b0, ir_reredoskeep_HearKind_r1]
            all_goals exact rfl
  · have hE : hearE S 3 0 k m = 2 := by rw [hearE, if_neg (by simp [hok]), if_pos c2]
    rw [hE, if_pos (by decide)] at f4
    clear hI hF hE hok hkd hrg o0 n0 hS
    obtain ⟨s1, s2, s3, s4⟩ := s
    obtain ⟨m1, m2, m3, m4, m5, m6, m7, m8, m9, m10, m11, m12⟩ := m
    obtain ⟨r1, r2, r3, r4, r5, r6⟩ := r
    simp only at c2
    simp only [stoC, txC, twoC, s0, ansC, msgC, rawC, List.map_nil] at f1 f2 p2 f3 p3 f4 p4
    simp only [rawsD, rawD, rawC]
    simp (implicitDefEqProofs := false) (maxSteps := 10000000) [ir_reredoskeep_HearKind, h1, x1, h2, x2, h3, x3, h4, x4, h5, x5, h6, x6, h7, x7, f1, p1, f2, p2, f3, p3, f4, p4, q1, q1', c2]
    all_goals exact rfl
end
end Go.Proofs.YtilahimnineigaaDoor
