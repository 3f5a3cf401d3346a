/-
  part.Hear computes what its specification says. Conditions: those of its specification's 'pre', and that the functions that are called are what theirs say.
-/
import Derived.Test.YtilahimnineigaaDoorPtG
set_option linter.unusedVariables false
set_option linter.unusedSimpArgs false
namespace Go.Proofs.YtilahimnineigaaDoor
open Go Go.Vcg

noncomputable def hearE (S P l me : Int) (m : Ms) : Int := if chkM S [(0, 0), (1, 0)] P m ≠ 0 then chkM S [(0, 0), (1, 0)] P m else if m.to ≠ me then 2 else if (m.kind = 1 ∨ m.kind = 3) ∧ l < m.label then 10 else if m.kind = 1 ∨ m.kind = 2 ∨ m.kind = 3 ∨ m.kind = 4 then 0 else 3
noncomputable def hearA (l me : Int) (a b : Sto) (ns : List Nt) (room : Int) (m : Ms) : Ans × List Nt := if m.kind = 1 then (readA a b l me m, ns) else if m.kind = 2 then (writeA a me room m, ns) else if m.kind = 3 then (stillA a b l me m, ns) else (decA a me m ns, ns.map (noteD m))
noncomputable def hearD (S P l me : Int) (a b : Sto) (ns : List Nt) (room : Int) (m : Ms) : D := if hearE S P l me m ≠ 0 then .tup [.agg (ansC s0 [] [] []), .int .i64 (hearE S P l me m)] else .tup [.agg (ansD (hearA l me a b ns room m).1 ((hearA l me a b ns room m).2.map ntC)), .int .i64 0]
noncomputable def sp_Hear : Sp := { pre := fun ds => ∃ (S P l me : Int) (a b : Sto) (ns : List Nt) (room : Int) (m : Ms), ds = [.agg (twoC S P), .int .i64 l, .int .i64 me, .fz 4 [stoC a, stoC b], .fz 4 (ns.map ntC), .int .i64 room, .agg (msgC m)] ∧ (1 ≤ S ∧ S ≤ 4) ∧ (1 ≤ P ∧ P ≤ 1048576) ∧ (0 ≤ me ∧ me < S) ∧ (l = 0 ∨ (l = 1 ∧ (m.kind = 1 ∨ m.kind = 3) ∧ m.label = 0)) ∧ OkS a ∧ OkS b ∧ fewN a 90 ∧ fewN b 90 ∧ ns.length ≤ 100, F := fun | [.agg [.int _ S, _, .int _ P], .int _ l, .int _ me, .fz _ [a, b], n, .int _ room, .agg m] => hearD S P l me (stoOf (.agg a)) (stoOf (.agg b)) (lsOf ntOf n) room (msgL m) | _ => .any }
theorem hear_F (S P l me : Int) (a b : Sto) (ns : List Nt) (room : Int) (m : Ms) : sp_Hear.F [.agg (twoC S P), .int .i64 l, .int .i64 me, .fz 4 [stoC a, stoC b], .fz 4 (ns.map ntC), .int .i64 room, .agg (msgC m)] = hearD S P l me a b ns room m := by
  have e : stoOf (.agg (stoC a)) = a := stoOf_stoD a
  have e' : stoOf (.agg (stoC b)) = b := stoOf_stoD b
  have e2 : msgL (msgC m) = m := rfl
  simp only [sp_Hear, twoC, e, e', e2, nts_of]
theorem hear_pre {S P l me : Int} {a b : Sto} {ns : List Nt} {m : Ms} (hS : 1 ≤ S ∧ S ≤ 4) (hP : 1 ≤ P ∧ P ≤ 1048576) (hme : 0 ≤ me ∧ me < S) (hl : l = 0 ∨ (l = 1 ∧ (m.kind = 1 ∨ m.kind = 3) ∧ m.label = 0)) (h1 : OkS a) (h2 : OkS b) (h3 : fewN a 90) (h4 : fewN b 90) (h5 : ns.length ≤ 100) (room : Int) : sp_Hear.pre [.agg (twoC S P), .int .i64 l, .int .i64 me, .fz 4 [stoC a, stoC b], .fz 4 (ns.map ntC), .int .i64 room, .agg (msgC m)] = True := by
  simp only [sp_Hear, eq_iff_iff, iff_true]; exact ⟨S, P, l, me, a, b, ns, room, m, rfl, hS, hP, hme, hl, h1, h2, h3, h4, h5⟩
theorem cmsg_F (S P : Int) (m : Ms) : sp_CheckMessage.F [.agg (twoC S P), .agg (msgC m)] = .int .i64 (chkM S [(0, 0), (1, 0)] P m) := by
  have e : D.agg (twoC S P) = cfgD S [(0, 0), (1, 0)] P := rfl
  have e2 : msgOf (.agg (msgC m)) = m := rfl
  simp only [e, sp_CheckMessage, cfgOf_cfgD, e2]
theorem cmsg_pre (S P : Int) (m : Ms) : sp_CheckMessage.pre [.agg (twoC S P), .agg (msgC m)] = True := by
  simp only [sp_CheckMessage, eq_iff_iff, iff_true]; exact ⟨_, _, rfl, rfl, rfl⟩
theorem chkM_zero {s p : Int} {ls : List (Int × Int)} {m : Ms} (h : chkM s ls p m = 0) : okRange s ls.length m ∧ okForm m ∧ 1 ≤ m.kind ∧ m.kind ≤ 9 := by
  unfold chkM at h
  split at h
  · rename_i h1; exact absurd h h1
  split at h
  · cases h
  split at h
  · cases h
  split at h
  · cases h
  · rename_i h1 h2 h3 h4
    exact ⟨by simpa using h3, by simpa using h4, by omega, by omega⟩
theorem fewN_readA {a b : Sto} (h1 : fewN a 90) (h2 : fewN b 90) (l me : Int) (m : Ms) : fewN (readA a b l me m).1 91 := by
  have g1 := fewN_mono h1 (by decide : 90 ≤ 91)
  have g2 := fewN_mono h2 (by decide : 90 ≤ 91)
  unfold readA outR
  split
  · split
    · exact fewN_read h1 _ _
    · split
      · exact g1
      · exact g1
  · split
    · exact g2
    · split
      · exact g2
      · exact g2
theorem fewN_writeA {a : Sto} (h1 : fewN a 90) (me room : Int) (m : Ms) : fewN (writeA a me room m).1 91 := by
  have g1 := fewN_mono h1 (by decide : 90 ≤ 91)
  unfold writeA
  split
  · exact fewN_write h1 _ _ _ _
  · split
    · exact g1
    · exact g1
section
variable {T : Tb}
attribute [local simp] k_seq k_block k_skip k_reg k_alt k_cond k_exit k_ret kf_nil kf_seq_n kf_seq_e kf_seq_r kf_blk_n kf_blk_e kf_blk_r kf_lp_n kf_lp_e kf_lp_r kf_cut_n kf_cut_e kf_cut_r mkTm VCops VCalt istep act gd applyE wrapD Opd.ev get_mk set_mk set_mk0 tget16 tset16 tget_0 tset_0 tget_1 tset_1 tget_2 tset_2 tget_3 tset_3 tget_4 tset_4 tget_5 tset_5 tget_6 tset_6 tget_7 tset_7 tget_8 tset_8 tget_9 tset_9 tget_10 tset_10 tget_11 tset_11 tget_12 tset_12 tget_13 tset_13 tget_14 tset_14 tget_15 tset_15 D.un D.gu gus IOp.opds binD fnPost getRes IRes.get oneRes D.out outL D.clos closL D.norow norowL D.lv lvL D.scal scalL D.cells D.cell D.cell' St.lk obPut obDel List.lookup cut pickD splice fillParts fillRows elem_cons newsOf D.pl D.forget forgetL Ob.forget forgetO eqCells sg leD leDL leOb apartK St.le D.keys keysL D.rows rowsL obKeys addKeys reach pos D.ren renL Ob.ren inM outM inObs outObs goneK apartN okNames_eq okNms obNms namesOK_nil namesOK_cons freeOK_nil freeOK_cons D.frz frzL Ob.frz frzO St.frz forgetLs dropObs putObs hcall freeOf keeps baseN shD isShift shMax k_bad VCopsG frz_nil actx actc cnum vwCut St.frzT St.opnT St.clsT D.opn opnL Ob.opn opnO
set_option maxRecDepth 100000 in
set_option maxHeartbeats 16000000 in
theorem v_Hear (h1 : T.sp n_part_site_check = some sp_site) (h2 : T.sp n_wire_CheckMessage = some sp_CheckMessage) (h3 : T.sp n_label_Above = some sp_Above2) (h4 : T.sp n_slices_Clone_reredos_api_Note_reredos_api_Note = some (sp_Clone 4)) (h5 : T.sp n_part_own = some sp_pown) (h6 : T.sp n_part_site_read = some sp_sread) (h7 : T.sp n_part_site_write = some sp_swrite) (h8 : T.sp n_part_site_still = some sp_sstill) (h9 : T.sp n_part_site_decide = some sp_decide) : Verified T ir_part_Hear sp_Hear := by
  refine Verified.mk ?_
  rintro ds ⟨S, P, l, me, a, b, ns, room, m, rfl, hS, hP, hme, hl, oa, ob, fa, fb, hn⟩
  rw [hear_F, hearD]
  have x1 : sp_site.hx = none := rfl
  have x2 : sp_CheckMessage.hx = none := rfl
  have x3 : sp_Above2.hx = none := rfl
  have x4 : (sp_Clone 4).hx = some (hs_Clone 4) := rfl
  have x5 : sp_pown.hx = none := rfl
  have x6 : sp_sread.hx = none := rfl
  have x7 : sp_swrite.hx = none := rfl
  have x8 : sp_sstill.hx = none := rfl
  have x9 : sp_decide.hx = some hs_decide := rfl
  have fa' := fewN_fewS' fa (by decide)
  have fb' := fewN_fewS' fb (by decide)
  have f1 := site_F S P l me (stoC a) (stoC b)
  have p1 := site_pre (x := stoC a) (y := stoC b) hS hP (l := l) (by omega) hme (.inl rfl) (.inl rfl) oa ob (fewS'_fewS fa') (fewS'_fewS fb')
  rw [if_neg (by omega)] at f1
  have f2 := cmsg_F S P m
  have p2 := cmsg_pre S P m
  have p4 := Clone_pre (sz := 4) (es := ns.map ntC) (by simpa using (by omega : ns.length ≤ 100000))
  by_cases c1 : chkM S [(0, 0), (1, 0)] P m = 0
  · obtain ⟨⟨_, _, _, _, _, hlab0, hlab1, _⟩, _, _, _⟩ := chkM_zero c1
    simp only [List.length_cons, List.length_nil] at hlab1
    rw [c1] at f2
    by_cases c2 : m.to = me
    · by_cases c3 : (m.kind = 1 ∨ m.kind = 3) ∧ l < m.label
      · have hE : hearE S P l me m = 10 := by rw [hearE, if_neg (by simp [c1]), if_neg (by simp [c2]), if_pos c3]
        rw [hE, if_pos (by decide)]
        have hl0 : l = 0 := by omega
        subst hl0
        have hm1 : m.label = 1 := by omega
        have f3 := above2_F 0 1
        have p3 := above2_pre 0 1
        have c3' := c3.1
        clear hE c1 hlab0 hlab1 hl oa ob fa fb c3
        obtain ⟨m1, m2, m3, m4, m5, m6, m7, m8, m9, m10, m11, m12⟩ := m
        obtain ⟨a1, a2, a3, a4⟩ := a
        obtain ⟨b1, b2, b3, b4⟩ := b
        simp only at hm1 c2 c3'
        subst hm1 c2
        simp only [stoC, txC, twoC, siteC, msgC, ansC, s0, List.map_nil] at f1 p1 f2 p2 ⊢
        rcases c3' with rfl | rfl
        · simp (implicitDefEqProofs := false) (maxSteps := 10000000) [ir_part_Hear, h1, h2, h3, x1, x2, x3, f1, p1, f2, p2, f3, p3]
        · simp (implicitDefEqProofs := false) (maxSteps := 10000000) [ir_part_Hear, h1, h2, h3, x1, x2, x3, f1, p1, f2, p2, f3, p3]
      · by_cases k1 : m.kind = 1 ∨ m.kind = 3
        · have hm0 : m.label = 0 := by omega
          have hE : hearE S P l me m = 0 := by rw [hearE, if_neg (by simp [c1]), if_neg (by simp [c2]), if_neg c3, if_pos (by omega)]
          rw [hE, if_neg (by decide), hearA]
          have f3 := above2_F l 0
          have p3 := above2_pre l 0
          have hl' : l = 0 ∨ l = 1 := by omega
          rcases k1 with k1 | k1
          · rw [if_pos k1]
            have f6 := sread_F (S := S) (P := P) (l := l) (me := me) (a := a) (b := b) (.inl rfl) m
            have p6 := sread_pre (S := S) (P := P) (me := me) hl' hm0 (y := stoC b) (.inl rfl) fa' fb'
            have fr := fewN_readA fa fb l me m
            generalize readA a b l me m = r at f6 fr ⊢
            obtain ⟨u, ms, rs⟩ := r
            have f5 := pown_F u (ms.map msgC) rs [] (ns.map ntC)
            have p5 := pown_pre (fewS_of fr (by decide)) (ms.map msgC) rs [] (ns.map ntC)
            clear hE c1 hlab0 hlab1 hl oa ob fa fb c3 fr fa' fb'
            obtain ⟨m1, m2, m3, m4, m5, m6, m7, m8, m9, m10, m11, m12⟩ := m
            obtain ⟨a1, a2, a3, a4⟩ := a
            obtain ⟨b1, b2, b3, b4⟩ := b
            obtain ⟨u1, u2, u3, u4⟩ := u
            simp only at hm0 c2 k1
            subst hm0 c2 k1
            simp only [stoC, txC, twoC, siteC, msgC, ansD, ansC] at f1 p1 f2 p2 f5 p5 f6 p6 ⊢
            rcases hl' with rfl | rfl
            · simp (implicitDefEqProofs := false) (maxSteps := 10000000) [ir_part_Hear, h1, h2, h3, h4, h5, h6, x1, x2, x3, x4, x5, x6, f1, p1, f2, p2, f3, p3, p4, Clone_F, f5, p5, f6, p6]
            · simp (implicitDefEqProofs := false) (maxSteps := 10000000) [ir_part_Hear, h1, h2, h3, h4, h5, h6, x1, x2, x3, x4, x5, x6, f1, p1, f2, p2, f3, p3, p4, Clone_F, f5, p5, f6, p6]
          · rw [if_neg (by omega), if_neg (by omega), if_pos k1]
            have f6 := sstill_F (S := S) (P := P) (l := l) (me := me) (a := a) (b := b) (.inl rfl) m
            have p6 := sstill_pre (S := S) (P := P) (me := me) hl' hm0 (y := stoC b) (.inl rfl) fa' fb'
            have fr : fewN (stillA a b l me m).1 91 := by
              simp only [stillA]
              split
              · exact fewN_mono fa (by decide)
              · exact fewN_mono fb (by decide)
            generalize stillA a b l me m = r at f6 fr ⊢
            obtain ⟨u, ms, rs⟩ := r
            have f5 := pown_F u (ms.map msgC) rs [] (ns.map ntC)
            have p5 := pown_pre (fewS_of fr (by decide)) (ms.map msgC) rs [] (ns.map ntC)
            clear hE c1 hlab0 hlab1 hl oa ob fa fb c3 fr fa' fb'
            obtain ⟨m1, m2, m3, m4, m5, m6, m7, m8, m9, m10, m11, m12⟩ := m
            obtain ⟨a1, a2, a3, a4⟩ := a
            obtain ⟨b1, b2, b3, b4⟩ := b
            obtain ⟨u1, u2, u3, u4⟩ := u
            simp only at hm0 c2 k1
            subst hm0 c2 k1
            simp only [stoC, txC, twoC, siteC, msgC, ansD, ansC] at f1 p1 f2 p2 f5 p5 f6 p6 ⊢
            rcases hl' with rfl | rfl
            · simp (implicitDefEqProofs := false) (maxSteps := 10000000) [ir_part_Hear, h1, h2, h3, h4, h5, h8, x1, x2, x3, x4, x5, x8, f1, p1, f2, p2, f3, p3, p4, Clone_F, f5, p5, f6, p6]
            · simp (implicitDefEqProofs := false) (maxSteps := 10000000) [ir_part_Hear, h1, h2, h3, h4, h5, h8, x1, x2, x3, x4, x5, x8, f1, p1, f2, p2, f3, p3, p4, Clone_F, f5, p5, f6, p6]
        · have hl0 : l = 0 := by omega
          subst hl0
          have k1a : ¬ m.kind = 1 := by omega
          have k1b : ¬ m.kind = 3 := by omega
          have hm01 : m.label = 0 ∨ m.label = 1 := by omega
          have f3 := above2_F 0 0
          have p3 := above2_pre 0 0
          have f3b := above2_F 0 1
          have p3b := above2_pre 0 1
          by_cases k2 : m.kind = 2
          · have hE : hearE S P 0 me m = 0 := by rw [hearE, if_neg (by simp [c1]), if_neg (by simp [c2]), if_neg c3, if_pos (by omega)]
            rw [hE, if_neg (by decide), hearA, if_neg k1a, if_pos k2]
            have f6 := swrite_F S P me room a (stoC b) m
            have p6 := swrite_pre S P me room fa' (stoC b) m
            have fr := fewN_writeA fa me room m
            generalize writeA a me room m = r at f6 fr ⊢
            obtain ⟨u, ms, rs⟩ := r
            have f5 := pown_F u (ms.map msgC) rs [] (ns.map ntC)
            have p5 := pown_pre (fewS_of fr (by decide)) (ms.map msgC) rs [] (ns.map ntC)
            clear hE c1 hlab0 hlab1 hl oa ob fa fb c3 fr fa' fb' k1 k1a k1b
            obtain ⟨m1, m2, m3, m4, m5, m6, m7, m8, m9, m10, m11, m12⟩ := m
            obtain ⟨a1, a2, a3, a4⟩ := a
            obtain ⟨b1, b2, b3, b4⟩ := b
            obtain ⟨u1, u2, u3, u4⟩ := u
            simp only at c2 k2 hm01
            subst c2 k2
            simp only [stoC, txC, twoC, siteC, msgC, ansD, ansC] at f1 p1 f2 p2 f5 p5 f6 p6 ⊢
            rcases hm01 with rfl | rfl
            · simp (implicitDefEqProofs := false) (maxSteps := 10000000) [ir_part_Hear, h1, h2, h3, h4, h5, h7, x1, x2, x3, x4, x5, x7, f1, p1, f2, p2, f3, p3, p4, Clone_F, f5, p5, f6, p6]
            · simp (implicitDefEqProofs := false) (maxSteps := 10000000) [ir_part_Hear, h1, h2, h3, h4, h5, h7, x1, x2, x3, x4, x5, x7, f1, p1, f2, p2, f3b, p3b, p4, Clone_F, f5, p5, f6, p6]
          · by_cases k3 : m.kind = 4
            · have hE : hearE S P 0 me m = 0 := by rw [hearE, if_neg (by simp [c1]), if_neg (by simp [c2]), if_neg c3, if_pos (by omega)]
              rw [hE, if_neg (by decide), hearA, if_neg k1a, if_neg k2, if_neg k1b]
              have f6 := decide_F S P me a (stoC b) m ns
              have p6 := decide_pre S P me (stoC b) m fa' hn
              have fr : fewN (decA a me m ns).1 91 := fewN_end fa _ _
              generalize decA a me m ns = r at f6 fr ⊢
              generalize ns.map (noteD m) = ns2 at f6 ⊢
              obtain ⟨u, ms, rs⟩ := r
              have f5 := pown_F u (ms.map msgC) rs [] (ns2.map ntC)
              have p5 := pown_pre (fewS_of fr (by decide)) (ms.map msgC) rs [] (ns2.map ntC)
              clear hE c1 hlab0 hlab1 hl oa ob fa fb c3 fr fa' fb' k1 k1a k1b
              obtain ⟨m1, m2, m3, m4, m5, m6, m7, m8, m9, m10, m11, m12⟩ := m
              obtain ⟨a1, a2, a3, a4⟩ := a
              obtain ⟨b1, b2, b3, b4⟩ := b
              obtain ⟨u1, u2, u3, u4⟩ := u
              simp only at c2 k3 hm01
              subst c2 k3
              simp only [stoC, txC, twoC, siteC, msgC, ansD, ansC] at f1 p1 f2 p2 f5 p5 f6 p6 ⊢
              rcases hm01 with rfl | rfl
              · simp (implicitDefEqProofs := false) (maxSteps := 10000000) [ir_part_Hear, h1, h2, h3, h4, h5, h9, x1, x2, x3, x4, x5, x9, f1, p1, f2, p2, f3, p3, p4, Clone_F, f5, p5, f6, p6]
              · simp (implicitDefEqProofs := false) (maxSteps := 10000000) [ir_part_Hear, h1, h2, h3, h4, h5, h9, x1, x2, x3, x4, x5, x9, f1, p1, f2, p2, f3b, p3b, p4, Clone_F, f5, p5, f6, p6]
            · have hE : hearE S P 0 me m = 3 := by rw [hearE, if_neg (by simp [c1]), if_neg (by simp [c2]), if_neg c3, if_neg (by omega)]
              rw [hE, if_pos (by decide)]
              clear hE c1 hlab0 hlab1 hl oa ob fa fb c3 fa' fb' k1
              obtain ⟨m1, m2, m3, m4, m5, m6, m7, m8, m9, m10, m11, m12⟩ := m
              obtain ⟨a1, a2, a3, a4⟩ := a
              obtain ⟨b1, b2, b3, b4⟩ := b
              simp only at c2 k2 k3 k1a k1b hm01
              subst c2
              simp only [stoC, txC, twoC, siteC, msgC, ansC, s0, List.map_nil] at f1 p1 f2 p2 ⊢
              rcases hm01 with rfl | rfl
              · simp (implicitDefEqProofs := false) (maxSteps := 10000000) [ir_part_Hear, h1, h2, h3, h4, x1, x2, x3, x4, f1, p1, f2, p2, f3, p3, p4, Clone_F, k1a, k1b, k2, k3]
              · simp (implicitDefEqProofs := false) (maxSteps := 10000000) [ir_part_Hear, h1, h2, h3, h4, x1, x2, x3, x4, f1, p1, f2, p2, f3b, p3b, p4, Clone_F, k1a, k1b, k2, k3]
    · have hE : hearE S P l me m = 2 := by rw [hearE, if_neg (by simp [c1]), if_pos c2]
      rw [hE, if_pos (by decide)]
      clear hE c1 hlab0 hlab1 hl oa ob fa fb fa' fb'
      obtain ⟨m1, m2, m3, m4, m5, m6, m7, m8, m9, m10, m11, m12⟩ := m
      obtain ⟨a1, a2, a3, a4⟩ := a
      obtain ⟨b1, b2, b3, b4⟩ := b
      simp only at c2
      simp only [stoC, txC, twoC, siteC, msgC, ansC, s0, List.map_nil] at f1 p1 f2 p2 ⊢
      simp (implicitDefEqProofs := false) (maxSteps := 10000000) [ir_part_Hear, h1, h2, x1, x2, f1, p1, f2, p2, c2]
  · have hE : hearE S P l me m = chkM S [(0, 0), (1, 0)] P m := by rw [hearE, if_pos c1]
    rw [hE, if_pos c1]
    generalize chkM S [(0, 0), (1, 0)] P m = e at c1 f2
    clear hE hl oa ob fa fb fa' fb'
    obtain ⟨m1, m2, m3, m4, m5, m6, m7, m8, m9, m10, m11, m12⟩ := m
    obtain ⟨a1, a2, a3, a4⟩ := a
    obtain ⟨b1, b2, b3, b4⟩ := b
    simp only [stoC, txC, twoC, siteC, msgC, ansC, s0, List.map_nil] at f1 p1 f2 p2 ⊢
    simp (implicitDefEqProofs := false) (maxSteps := 10000000) [ir_part_Hear, h1, h2, x1, x2, f1, p1, f2, p2, c1]
end
end Go.Proofs.YtilahimnineigaaDoor
