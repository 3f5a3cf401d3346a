/-
  PartAsks answers true on data. Conditions: those of its specification's 'pre', and that the functions that are called are what theirs say.
-/
import Derived.Test.YtjilpdgpdpibkaaPtD
set_option linter.unusedVariables false
set_option linter.unusedSimpArgs false
namespace Go.Proofs.Ytjilpdgpdpibkaa
open Go Go.Vcg

/-- Nobody has waited. -/
def ageZ (s : Sto) : Prop := ∀ d ∈ s.doubts, d.age = 0
theorem ageZ_handD {s : Sto} (h : ageZ s) (t : Tx) : ∀ d ∈ handD s.doubts t, d.age = 0 := by
  intro d hd
  rcases mem_handD hd with hd | ⟨rfl, _⟩
  · exact h d hd
  · rfl
theorem ageZ_step {s : Sto} (h : ageZ s) (r : Rw) : ageZ (kStep s r) := by
  unfold kStep
  split
  · split
    · rename_i he
      obtain ⟨_, h1 | ⟨_, _, _, _, h5⟩⟩ := read_cases he
      · rw [h1.2]; exact h
      · rw [h5]; exact ageZ_handD h _
    · exact h
  split
  · split
    · rename_i he
      obtain ⟨_, _, _, _, _, h5⟩ := write_cases he
      rw [h5]; exact ageZ_handD h _
    · exact h
  · split
    · rename_i he
      intro d hd
      unfold endS at hd he
      split at hd
      · simp [s0] at hd
      · exact h d (List.mem_filter.1 hd).1
    · exact h
theorem ageZ_store (l : List Rw) (m : Nat) : ageZ (storeK l m) := by
  rw [storeK, kSteps]
  have : ∀ (l : List Rw) (s : Sto), ageZ s → ageZ (l.foldl kStep s) := by
    intro l
    induction l with
    | nil => exact fun _ h => h
    | cons r l ih => exact fun s h => ih _ (ageZ_step h r)
  exact this _ s0 (by simp [ageZ, s0])
theorem age_zero {s : Sto} (h : OkS s) (hz : ageZ s) : ageS s 1 = ((s, s.doubts.map fun d => (d.site, d.n)), 0) := by
  rw [age_ok h (by omega)]
  have e1 : s.doubts.map (bump 1) = s.doubts := by
    rw [List.map_congr_left (g := id), List.map_id]
    intro d hd
    have := hz d hd
    obtain ⟨a, b, c⟩ := d
    simp only at this
    subst this
    rfl
  have e2 : toldL 1 s.doubts = s.doubts.map fun d => (d.site, d.n) := by
    rw [toldL, List.filter_eq_self.2]
    intro d hd
    have := hz d hd
    simp [this]
  rw [e1, e2]
theorem asks_get (S me : Int) (l : List Tx) {j : Nat} (h : j < l.length) (e : l[j].1 < S) : (asks S me (l.take j)).length < (asks S me l).length ∧ elem (asks S me l) (asks S me (l.take j)).length = askC me l[j] := by
  have e1 : asks S me l = asks S me (l.take j) ++ askC me l[j] :: asks S me (l.drop (j + 1)) := by
    have h2 : l = l.take j ++ l[j] :: l.drop (j + 1) := by
      rw [← List.drop_eq_getElem_cons h, List.take_append_drop]
    have h3 : asks S me l = asks S me (l.take j ++ l[j] :: l.drop (j + 1)) := congrArg _ h2
    rw [h3, asks, List.filter_append, List.map_append, List.filter_cons_of_pos (by simpa using e)]
    rfl
  rw [e1]
  refine ⟨by simp, ?_⟩
  simp [elem]
def sp_PartAsks : Sp := { pre := fun ds => ∃ (s : Int) (l : List Rw) (me : Int), ds = [.int .i64 s, rawsD l, .int .i64 me] ∧ inR .i64 s ∧ okRaws l ∧ inR .i64 me, F := fun _ => .bool true }
section
variable {T : Tb}
attribute [local simp] k_seq k_block k_skip k_reg k_alt k_cond k_exit k_ret kf_nil kf_seq_n kf_seq_e kf_seq_r kf_blk_n kf_blk_e kf_blk_r kf_lp_n kf_lp_e kf_lp_r kf_cut_n kf_cut_e kf_cut_r mkTm VCops VCalt istep act gd applyE wrapD Opd.ev get_mk set_mk set_mk0 tget16 tset16 tget_0 tset_0 tget_1 tset_1 tget_2 tset_2 tget_3 tset_3 tget_4 tset_4 tget_5 tset_5 tget_6 tset_6 tget_7 tset_7 tget_8 tset_8 tget_9 tset_9 tget_10 tset_10 tget_11 tset_11 tget_12 tset_12 tget_13 tset_13 tget_14 tset_14 tget_15 tset_15 D.un D.gu gus IOp.opds binD fnPost getRes IRes.get oneRes D.out outL D.clos closL D.norow norowL D.lv lvL D.scal scalL D.cells D.cell D.cell' St.lk obPut obDel List.lookup cut pickD splice fillParts fillRows elem_cons newsOf D.pl D.forget forgetL Ob.forget forgetO eqCells sg leD leDL leOb apartK St.le D.keys keysL D.rows rowsL obKeys addKeys reach pos D.ren renL Ob.ren inM outM inObs outObs goneK apartN okNames_eq okNms obNms namesOK_nil namesOK_cons freeOK_nil freeOK_cons D.frz frzL Ob.frz frzO St.frz forgetLs dropObs putObs hcall freeOf keeps baseN shD isShift shMax k_bad VCopsG frz_nil actx actc cnum vwCut St.frzT St.opnT St.clsT D.opn opnL Ob.opn opnO
set_option maxRecDepth 100000 in
set_option maxHeartbeats 8000000 in
theorem v_PartAsks (h1 : T.sp n_reredoskeep_Store = some sp_Store) (h2 : T.sp n_reredoskeep_picked = some sp_picked) (h3 : T.sp n_reredoskeep_two = some sp_two) (h4 : T.sp n_part_Tick = some sp_Tick) (h5 : T.sp n_reredoskeep_sameStore = some sp_same) : Verified T ir_reredoskeep_PartAsks sp_PartAsks := by
  refine Verified.mk ?_
  rintro ds ⟨sn, l, me, rfl, hsn, hl, hme⟩
  have x1 : sp_Store.hx = none := rfl
  have x2 : sp_picked.hx = none := rfl
  have x3 : sp_two.hx = none := rfl
  have x4 : sp_Tick.hx = none := rfl
  have x5 : sp_same.hx = none := rfl
  have f1 : sp_Store.F [.fz 6 (l.map rawC), .int .i64 25] = _ := store_F l 25
  have p1 : sp_Store.pre [.fz 6 (l.map rawC), .int .i64 25] = True := store_pre hl (m := 25) (by decide)
  have hI := invK_store l (m := 25) (by decide)
  have hF := fewN_store l 25
  have hZ := ageZ_store l 25
  generalize storeK l 25 = s at f1 hI hF hZ
  have f2 := two_F sn
  have p2 := two_pre hsn
  have b1 := pk_bounds sn 3 (by decide)
  generalize hS : 1 + pk sn 3 = S at f2
  have bS : 1 ≤ S ∧ S ≤ 4 := by omega
  have b2 := pk_bounds me S (by omega)
  have q1 := pk_pre hme (m := S) (by omega)
  have q1' := pk_F me S
  generalize pk me S = k at b2 q1'
  have hFs := fewN_fewS' hF (by decide)
  have hag := age_zero hI.ok hZ
  have f3 := tick_F S 1 0 k s
  have p3 := tick_pre (S := S) (P := 1) (l := 0) (me := k) bS (by omega) (.inl rfl) b2 hI.ok hFs
  have f4 := tick_F S 1 2 k s
  have p4 := tick_pre (S := S) (P := 1) (l := 2) (me := k) bS (by omega) (.inr rfl) b2 hI.ok hFs
  rw [tickD, if_neg (by omega), hag] at f3
  rw [tickD, if_pos rfl] at f4
  have p5 := same_pre (fewS_of hF (by decide))
  have f5 : sp_same.F [.agg (stoC s), .agg (stoC s)] = .bool true := rfl
  have hd : s.doubts.length ≤ 100 := by have := hF.2.2.1; omega
  clear hI hF hFs hag hZ
  obtain ⟨s1, s2, s3, s4⟩ := s
  simp only at f3 hd
  have hT := fun (j : Nat) (h : j < s3.length) (e : s3[j].site < S) => asks_get S k (s3.map fun d => (d.site, d.n)) (j := j) (by simpa using h) (by simpa using e)
  have hTk := fun (j : Nat) (h : j < s3.length) (e : s3[j].site < S) => asks_take S k (s3.map fun d => (d.site, d.n)) (j := j) (by simpa using h) (by simpa using e)
  have hTs := fun (j : Nat) (h : j < s3.length) (e : ¬ s3[j].site < S) => asks_skip S k (s3.map fun d => (d.site, d.n)) (j := j) (by simpa using h) (by simpa using e)
  have hTl := fun (j : Nat) => length_asks S k (s3.map fun d => (d.site, d.n)) j
  simp only [List.length_map, List.getElem_map] at hT hTk hTs hTl
  have hTa : (s3.map fun d => (d.site, d.n)).take s3.length = s3.map fun d => (d.site, d.n) := List.take_of_length_le (by simp)
  obtain ⟨told, htold⟩ : ∃ told : List Tx, told = s3.map fun d => (d.site, d.n) := ⟨_, rfl⟩
  rw [← htold] at f3
  simp only [← htold] at hT hTk hTs hTl hTa
  clear htold
  generalize hms : asks S k told = ms at f3 hT
  simp only [stoC, txC, twoC, nilS, ansC, s0, List.map_nil] at f1 f2 p2 f3 p3 f4 p4 f5 p5
  simp only [rawsD]
  simp (implicitDefEqProofs := false) (maxSteps := 10000000) [ir_reredoskeep_PartAsks, h1, x1, h2, x2, h3, x3, h4, x4, h5, x5, f1, p1, f2, p2, f3, p3, q1, q1']
  refine k_loop (ι := {j : Nat // j ≤ s3.length}) (fun x => ⟨mkTm 99 0 [(7, .own 7 0), (8, .int .i64 k), (9, .own 9 0), (10, .own 10 0), (11, .int .i64 0), (12, .int .i64 ((asks S k (told.take x.1)).length : Nat)), (36, .fz 3 (s3.map dbC)), (37, .int .i64 s3.length), (38, .int .i64 x.1)], [(7, .box [.int .i64 S, .fz 2 [[.int .i64 0, .int .i64 0], [.int .i64 1, .int .i64 0]], .int .i64 1]), (9, .box [.fz 3 (s1.map itC), .fz 6 (s2.map lkC), .fz 3 (s3.map dbC), .fz 2 (s4.map txC)]), (10, .box [.fz 3 (s1.map itC), .fz 6 (s2.map lkC), .fz 3 (s3.map dbC), .fz 2 (s4.map txC), .fz 12 ms, .fz 8 [], .fz 4 []])]⟩)
    (fun x => s3.length - x.1) [] ⟨0, by omega⟩ (by simp (implicitDefEqProofs := false) (maxSteps := 10000000) [asks]) ?_
  rintro ⟨j, hj⟩ Q hQ
  by_cases hjl : j < s3.length
  · have hjl' : (j : Int) < s3.length := by omega
    have hel := elem_map dbC s3 j hjl
    have hA := hT j hjl
    have hB := hTk j hjl
    have hC := hTs j hjl
    have hln := hTl j
    have hgo : ∀ n : Nat, n = (asks S k (told.take (j + 1))).length → ∀ s', (∃ σ, St.le σ s' ⟨mkTm 99 0 [(7, .own 7 0), (8, .int .i64 k), (9, .own 9 0), (10, .own 10 0), (11, .int .i64 0), (12, .int .i64 (n : Nat)), (36, .fz 3 (s3.map dbC)), (37, .int .i64 s3.length), (38, .int .i64 (j + 1 : Nat))], [(7, .box [.int .i64 S, .fz 2 [[.int .i64 0, .int .i64 0], [.int .i64 1, .int .i64 0]], .int .i64 1]), (9, .box [.fz 3 (s1.map itC), .fz 6 (s2.map lkC), .fz 3 (s3.map dbC), .fz 2 (s4.map txC)]), (10, .box [.fz 3 (s1.map itC), .fz 6 (s2.map lkC), .fz 3 (s3.map dbC), .fz 2 (s4.map txC), .fz 12 ms, .fz 8 [], .fz 4 []])]⟩) → Q s' := by
      rintro n rfl s' ⟨σ, hs'⟩
      refine hQ s' σ ⟨j + 1, by omega⟩ ?_ (by simp only; omega)
      exact hs'
    clear hQ hT hTk hTs hTl
    generalize asks S k (told.take (j + 1)) = P2 at hB hC hgo
    simp only
    generalize asks S k (told.take j) = P1 at hA hB hC hln ⊢
    generalize s3[j] = x at hel hA hB hC
    obtain ⟨y1, y2, y3⟩ := x
    simp only [dbC] at hel
    simp only at hA hB hC
    by_cases e1 : y1 < S
    · obtain ⟨hA1, hA2⟩ := hA e1
      have hst := hB e1
      have hn := hgo (P1.length + 1) (by rw [hst]; simp)
      simp only [askC] at hA2
      clear hA hB hC hgo hst
      have hA3 : ¬ (P1.length : Int) = ms.length := by omega
      generalize P1.length = n at hA1 hA2 hA3 hn hln
      have hA4 : ¬ n = ms.length := by omega
      simp (implicitDefEqProofs := false) (maxSteps := 10000000) [ir_reredoskeep_PartAsks_b0, hjl', hjl, hel, e1, hA1, hA2, hA3, hA4]
      exact ⟨by simp only [inR]; omega, by simp only [inR]; omega, hn _ ⟨[], by simp (implicitDefEqProofs := false) (maxSteps := 10000000)⟩⟩
    · have hst := hC e1
      have hn := hgo P1.length (by rw [hst])
      clear hA hB hC hgo hst
      simp (implicitDefEqProofs := false) (maxSteps := 10000000) [ir_reredoskeep_PartAsks_b0, hjl', hjl, hel, e1]
      exact ⟨by simp only [inR]; omega, hn _ ⟨[], by simp (implicitDefEqProofs := false) (maxSteps := 10000000)⟩⟩
  · have hjn : j = s3.length := by omega
    subst hjn
    clear hQ hT hTk hTs hTl
    simp only [hTa, hms]
    simp (implicitDefEqProofs := false) (maxSteps := 10000000) [ir_reredoskeep_PartAsks_b0, ir_reredoskeep_PartAsks_r1, h4, x4, h5, x5, f4, p4, f5, p5]
    all_goals exact rfl
end
end Go.Proofs.Ytjilpdgpdpibkaa
