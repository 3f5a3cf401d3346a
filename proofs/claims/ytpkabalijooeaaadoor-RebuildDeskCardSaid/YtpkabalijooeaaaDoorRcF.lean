/-
  RebuildOn answers true on data; what holds of a store that is rebuilt. Conditions: those of its specification's 'pre', and that the functions that are called are what theirs say.
-/
import Derived.Test.YtpkabalijooeaaaDoorRcE
set_option linter.unusedVariables false
set_option linter.unusedSimpArgs false
namespace Go.Proofs.YtpkabalijooeaaaDoor
open Go Go.Vcg

/-- A store of so many records. -/
structure InvR (n : Nat) (s : Sto) : Prop where
  ok : OkS s
  its : ∀ x ∈ s.items, itB 8 (24 * n : Nat) x
  lks : ∀ x ∈ s.locks, lkB 8 x
theorem invR_mono {n m : Nat} {s : Sto} (h : InvR n s) (hm : n ≤ m) : InvR m s := by
  refine ⟨h.ok, fun x hx => ?_, h.lks⟩
  obtain ⟨a, b, c, d, e, f⟩ := h.its x hx
  exact ⟨a, b, c, d, e, by omega⟩
theorem keepS_zero (u s : Sto) : keepS (u, 0) s = u := by rw [keepS, if_pos rfl]
theorem invR_s0 : InvR 0 s0 := ⟨(okS_iff _).1 okS_s0, by simp [s0], by simp [s0]⟩
theorem invR_write {n : Nat} {s : Sto} (h : InvR n s) (t : Tx) (k v q : Int) : InvR (n + 1) (keepS (writeS s t k v q) s) := by
  rw [keepS]
  split
  · rename_i he
    have ho := okS_write h.ok he
    obtain ⟨hc, h1, h2, h3, h4, h5⟩ := write_cases he
    obtain ⟨_, ht, hk⟩ := callE_zero hc
    have hx0 : lkB 8 (⟨t.1, t.2, k, true, v, q⟩ : Lk) := ⟨hk.1, hk.2, h1.1, h1.2.1⟩
    refine ⟨ho, ?_, ?_⟩
    · rw [h5]; exact (invR_mono h (Nat.le_succ n)).its
    · rw [h5]
      intro x hx
      simp only [putL] at hx
      split at hx
      · rw [List.mem_append, List.mem_singleton] at hx
        rcases hx with hx | rfl
        · exact h.lks x hx
        · exact hx0
      · rcases List.mem_or_eq_of_mem_set hx with hx | rfl
        · exact h.lks x hx
        · exact hx0
  · exact invR_mono h (Nat.le_succ n)
theorem end_eq {s : Sto} (h : OkS s) {t : Tx} (ht : okTx t.1 t.2 = true) (yes : Bool) : endS s t yes = (⟨endIts t yes s.locks s.items, s.locks.filter (fun x => !isTx x.site x.n t), s.doubts.filter (fun x => !isTx x.site x.n t), overL s.over t⟩, 0) := by
  have hc : callE s t 0 = 0 := callE_ok ((okS_iff s).2 h) ht ⟨by omega, by omega⟩
  rw [endS, if_neg (by simp [hc])]
theorem invR_end {n : Nat} {s : Sto} (h : InvR n s) (hn : n ≤ 1000) {t : Tx} (ht : okTx t.1 t.2 = true) (yes : Bool) : InvR (n + 1) (keepS (endS s t yes) s) := by
  have ho := okS_end h.ok ht yes (K := 8) (m := (24 * n : Nat)) (by omega) (by omega) h.its h.lks
  obtain ⟨_, g2⟩ := its_end t yes s.locks s.items (24 * n : Nat) h.ok.sorted (by omega) h.its h.lks
  have e := end_eq h.ok ht yes
  rw [keepS, e] 
  rw [e] at ho
  simp only [if_true] at ho ⊢
  refine ⟨ho, ?_, ?_⟩
  · intro x hx
    have := g2 x hx
    have hf := h.ok.few
    simp only [itB] at this ⊢
    omega
  · exact fun x hx => h.lks x (List.mem_filter.1 hx).1
theorem okTx_rec {S P : Int} {ls : List (Int × Int)} {r : Rc} (h : chkR S ls P r = 0) : okTx r.site r.n = true := by
  obtain ⟨h1, _, _, ⟨h4, _⟩, _⟩ := chkR_zero h
  have hS := check_zero h1
  simp only [okTxn, Bool.and_eq_true, decide_eq_true_eq] at h4
  exact okTx_of (t := (r.site, r.n)) ⟨by simp only; omega, by simp only; omega⟩ ⟨by simp only; omega, by simp only; omega⟩
theorem invR_step {n : Nat} {m : Mm} (h : InvR n m.s) (hn : n ≤ 1000) (me : Int) {r : Rc} (ht : okTx r.site r.n = true) : InvR (n + 1) (mmStep me m r).s := by
  have h' := invR_mono h (Nat.le_succ n)
  unfold mmStep
  split
  · exact invR_write h ..
  split
  · exact invR_end h hn (t := (r.site, r.n)) ht _
  split
  · exact invR_end h hn (t := (r.site, r.n)) ht _
  split
  · exact h'
  split
  · exact h'
  · exact h'
theorem invR_fold (me : Int) : ∀ (l : List Rc) {n : Nat} {m : Mm}, InvR n m.s → n + l.length ≤ 1000 → (∀ r ∈ l, okTx r.site r.n = true) → InvR (n + l.length) (l.foldl (mmStep me) m).s
  | [], n, m, h, _, _ => h
  | r :: l, n, m, h, hn, ht => by
    simp only [List.length_cons] at hn
    have := invR_fold me l (invR_step h (by omega) me (ht r (by simp))) (by omega) (fun r' hr' => ht r' (by simp [hr']))
    rw [List.length_cons, List.foldl_cons]
    have e : n + 1 + l.length = n + (l.length + 1) := by omega
    rw [← e]
    exact this
/-- x is the first that is over, and has no hand on anything. -/
def first (x : Tx) (s : Sto) : Prop := s.over.head? = some x ∧ noTx s x
theorem first_over {x : Tx} {s : Sto} (h : first x s) : x ∈ s.over := by
  obtain ⟨h, _⟩ := h
  cases ho : s.over with
  | nil => rw [ho] at h; cases h
  | cons a l => rw [ho] at h; simp at h; subst h; simp
theorem first_write {x : Tx} {s : Sto} (h : first x s) (t : Tx) (k v q : Int) : first x (keepS (writeS s t k v q) s) := by
  rw [keepS]
  split
  · rename_i he
    obtain ⟨hc, h1, h2, h3, h4, h5⟩ := write_cases he
    have hne : isTx t.1 t.2 x = false := by
      cases hq : isTx t.1 t.2 x
      · rfl
      · have := isTx_iff.1 hq
        subst this
        rw [over_iff.2 (first_over h)] at h2
        cases h2
    rw [h5]
    refine ⟨h.1, ?_⟩
    intro y hy
    simp only [putL] at hy
    split at hy
    · rw [List.mem_append, List.mem_singleton] at hy
      rcases hy with hy | rfl
      · exact h.2 y hy
      · exact hne
    · rcases List.mem_or_eq_of_mem_set hy with hy | rfl
      · exact h.2 y hy
      · exact hne
  · exact h
theorem first_end {x : Tx} {s : Sto} (h : first x s) (ho : OkS s) {t : Tx} (ht : okTx t.1 t.2 = true) (yes : Bool) : first x (keepS (endS s t yes) s) := by
  rw [keepS, end_eq ho ht yes]
  simp only [if_true]
  refine ⟨?_, fun y hy => h.2 y (List.mem_filter.1 hy).1⟩
  have := h.1
  simp only [overL]
  split
  · exact this
  · cases hs : s.over with
    | nil => rw [hs] at this; cases this
    | cons a l => rw [hs] at this; simpa using this
theorem first_step {x : Tx} {m : Mm} (h : first x m.s) (ho : OkS m.s) (me : Int) {r : Rc} (ht : okTx r.site r.n = true) : first x (mmStep me m r).s := by
  unfold mmStep
  split
  · exact first_write h ..
  split
  · exact first_end h ho (t := (r.site, r.n)) ht _
  split
  · exact first_end h ho (t := (r.site, r.n)) ht _
  split
  · exact h
  split
  · exact h
  · exact h
theorem first_fold (x : Tx) (me : Int) : ∀ (l : List Rc) {n : Nat} {m : Mm}, InvR n m.s → first x m.s → n + l.length ≤ 1000 → (∀ r ∈ l, okTx r.site r.n = true) → first x (l.foldl (mmStep me) m).s
  | [], n, m, _, h, _, _ => h
  | r :: l, n, m, hI, h, hn, ht => by
    simp only [List.length_cons] at hn
    exact first_fold x me l (invR_step hI (by omega) me (ht r (by simp))) (first_step h hI.ok me (ht r (by simp))) (by omega) (fun r' hr' => ht r' (by simp [hr']))
theorem on_plain {A B : Int} (hx : okTx A B = true) {l : List Rc} (hl : l.length ≤ 30) (ht : ∀ r ∈ l, okTx r.site r.n = true) (me : Int) : ∃ rest, (mmOf me (⟨2, A, B, 0, 0, 0, true, []⟩ :: l)).s.over = (A, B) :: rest ∧ writesS (mmOf me (⟨2, A, B, 0, 0, 0, true, []⟩ :: l)).s (A, B) = (0, 0) := by
  have e0 := end_eq ((okS_iff _).1 okS_s0) (t := (A, B)) hx true
  have h1 : (mmStep me mm0 ⟨2, A, B, 0, 0, 0, true, []⟩).s = ⟨[], [], [], [(A, B)]⟩ := by
    have e1 : (mmStep me mm0 ⟨2, A, B, 0, 0, 0, true, []⟩).s = keepS (endS s0 (A, B) true) s0 := rfl
    rw [e1, e0, keepS_zero]
    simp [s0, endIts, overL]
  have i1 := invR_step invR_s0 (m := mm0) (by omega) me (r := ⟨2, A, B, 0, 0, 0, true, []⟩) hx
  have f1 : first (A, B) (mmStep me mm0 ⟨2, A, B, 0, 0, 0, true, []⟩).s := by
    rw [h1]; exact ⟨rfl, by simp [noTx]⟩
  have i2 := invR_fold me l i1 (by omega) ht
  have f2 := first_fold (A, B) me l i1 f1 (by omega) ht
  have e : mmOf me (⟨2, A, B, 0, 0, 0, true, []⟩ :: l) = l.foldl (mmStep me) (mmStep me mm0 ⟨2, A, B, 0, 0, 0, true, []⟩) := rfl
  rw [e]
  generalize (l.foldl (mmStep me) (mmStep me mm0 ⟨2, A, B, 0, 0, 0, true, []⟩)).s = s at i2 f2
  obtain ⟨g1, g2⟩ := f2
  cases hs : s.over with
  | nil => rw [hs] at g1; cases g1
  | cons a r =>
    rw [hs] at g1
    simp at g1
    subst g1
    refine ⟨r, rfl, ?_⟩
    have hc : callE s (A, B) 0 = 0 := callE_ok ((okS_iff s).2 i2.ok) (t := (A, B)) hx ⟨by omega, by omega⟩
    rw [writesS, if_neg (by simp [hc]), wrN_zero g2]
    rfl
def sp_RebuildOn : Sp := { pre := fun ds => ∃ (s : Int) (l : List Rw) (a b : Int), ds = [.int .i64 s, rawsD l, .int .i64 a, .int .i64 b] ∧ inR .i64 s ∧ okRaws l ∧ inR .i64 a ∧ inR .i64 b, F := fun _ => .bool true }
section
variable {T : Tb}
attribute [local simp] k_seq k_block k_skip k_reg k_alt k_cond k_exit k_ret kf_nil kf_seq_n kf_seq_e kf_seq_r kf_blk_n kf_blk_e kf_blk_r kf_lp_n kf_lp_e kf_lp_r kf_cut_n kf_cut_e kf_cut_r mkTm VCops VCalt istep act gd applyE wrapD Opd.ev get_mk set_mk set_mk0 tget16 tset16 tget_0 tset_0 tget_1 tset_1 tget_2 tset_2 tget_3 tset_3 tget_4 tset_4 tget_5 tset_5 tget_6 tset_6 tget_7 tset_7 tget_8 tset_8 tget_9 tset_9 tget_10 tset_10 tget_11 tset_11 tget_12 tset_12 tget_13 tset_13 tget_14 tset_14 tget_15 tset_15 D.un D.gu gus IOp.opds binD fnPost getRes IRes.get oneRes D.out outL D.clos closL D.norow norowL D.lv lvL D.scal scalL D.cells D.cell D.cell' St.lk obPut obDel List.lookup cut pickD splice fillParts fillRows elem_cons newsOf D.pl D.forget forgetL Ob.forget forgetO eqCells sg leD leDL leOb apartK St.le D.keys keysL D.rows rowsL obKeys addKeys reach pos D.ren renL Ob.ren inM outM inObs outObs goneK apartN okNames_eq okNms obNms namesOK_nil namesOK_cons freeOK_nil freeOK_cons D.frz frzL Ob.frz frzO St.frz forgetLs dropObs putObs hcall freeOf keeps baseN shD isShift shMax k_bad VCopsG frz_nil actx actc cnum vwCut St.frzT St.opnT St.clsT D.opn opnL Ob.opn opnO
set_option maxRecDepth 100000 in
set_option maxHeartbeats 16000000 in
theorem v_RebuildOn (h1 : T.sp n_reredoskeep_two = some sp_two) (h2 : T.sp n_reredoskeep_Txn = some sp_Txn) (h3 : T.sp n_reredoskeep_records = some sp_records) (h4 : T.sp n_recover_Rebuild = some sp_Rebuild) (h5 : T.sp n_store_Writes = some sp_Writes) : Verified T ir_reredoskeep_RebuildOn sp_RebuildOn := by
  refine Verified.mk ?_
  rintro ds ⟨s, l, a, b, rfl, hs, hl, ha, hb⟩
  have hF : sp_RebuildOn.F [.int .i64 s, rawsD l, .int .i64 a, .int .i64 b] = .bool true := rfl
  rw [hF]
  have x1 : sp_two.hx = none := rfl
  have x2 : sp_Txn.hx = none := rfl
  have x3 : sp_records.hx = none := rfl
  have x4 : sp_Rebuild.hx = none := rfl
  have x5 : sp_Writes.hx = none := rfl
  have bS := pk_bounds s 3 (by decide)
  have f1 := two_F s
  have p1 := two_pre hs
  have hS : 1 ≤ 1 + pk s 3 ∧ 1 + pk s 3 ≤ 4 := by omega
  generalize 1 + pk s 3 = S at f1 hS
  have f2 := txn_F S 3 a b
  have p2 := txn_pre hS 3 ha hb
  have f3 : sp_records.F [.agg (twoC S 3), .fz 6 (l.map rawC), .int .i64 30] = .fz 8 (((l.take 30).map (mkRec S)).map recC) := recs_F S 3 l 30
  have p3 : sp_records.pre [.agg (twoC S 3), .fz 6 (l.map rawC), .int .i64 30] = True := recs_pre hS 3 hl (m := 30) (by omega)
  have hc0 : check S [(0, 0), (1, 0)] 3 = 0 := check_two hS (by omega)
  have hrs : ∀ r ∈ (l.take 30).map (mkRec S), chkR S [(0, 0), (1, 0)] 3 r = 0 := by
    intro r hr
    obtain ⟨x, _, rfl⟩ := List.mem_map.1 hr
    exact mkRec_ok S 3 _ x hc0 hS.1
  have hrl : ((l.take 30).map (mkRec S)).length ≤ 30 := by simp; omega
  generalize (l.take 30).map (mkRec S) = L at f3 hrs hrl
  have bA := pk_bounds a S (by omega)
  have bB := pk_bounds b 6 (by decide)
  generalize pk a S = A at f2 bA
  have hB : 1 ≤ 1 + pk b 6 ∧ 1 + pk b 6 ≤ 6 := by omega
  generalize 1 + pk b 6 = B at f2 hB
  have hx : okTx A B = true := okTx_of (t := (A, B)) ⟨by simp only; omega, by simp only; omega⟩ ⟨by simp only; omega, by simp only; omega⟩
  obtain ⟨rest, e1, e2⟩ := on_plain hx hrl (fun r hr => okTx_rec (hrs r hr)) 0
  have hr0 : chkR S [(0, 0), (1, 0)] 3 ⟨2, A, B, 0, 0, 0, true, []⟩ = 0 := by
    rw [chkR, if_neg (by simp [hc0]), if_neg (by simp), if_neg, if_neg, if_neg]
    · simp [okFormR, rp, rparts]
    · intro h; exact h (by intro i hi; simp at hi)
    · intro h
      refine h ⟨?_, rfl, rfl, rfl⟩
      simp only [okTxn, Bool.and_eq_true, decide_eq_true_eq]; omega
  have hall : ∀ r ∈ (⟨2, A, B, 0, 0, 0, true, []⟩ :: L : List Rc), chkR S [(0, 0), (1, 0)] 3 r = 0 := by
    intro r hr
    rcases List.mem_cons.1 hr with rfl | hr
    · exact hr0
    · exact hrs r hr
  have f4 := rebuild_F S [(0, 0), (1, 0)] 3 0 (⟨2, A, B, 0, 0, 0, true, []⟩ :: L)
  have p4 := rebuild_pre 0 hc0 hall (by simp only [List.length_cons]; omega)
  rw [rebD, if_neg (by omega)] at f4
  have hI := mmI_at 0 (rs := ⟨2, A, B, 0, 0, 0, true, []⟩ :: L) (fun r hr => rcOk_of (hall r hr)) _ (Nat.le_refl _)
  rw [mmAt_all] at hI
  have hfew := hI.ok (by simp only [List.length_cons]; omega)
  have f5 := writes_F (mmOf 0 (⟨2, A, B, 0, 0, 0, true, []⟩ :: L)).s (A, B)
  have p5 := writes_pre hfew.1 (A, B)
  rw [e2] at f5
  clear hall hr0 hrs hfew hI hx e2 hc0
  generalize mmOf 0 (⟨2, A, B, 0, 0, 0, true, []⟩ :: L) = M at f4 f5 p5 e1
  obtain ⟨⟨m1, m2, m3, m4⟩, mn, mj, mt⟩ := M
  simp only at e1
  subst e1
  simp only [twoC, cfgD, lbc, stoC, txC, recC, List.map_cons, List.map_nil] at f1 p1 f2 p2 f3 p3 f4 p4 f5 p5
  simp (implicitDefEqProofs := false) (maxSteps := 10000000) [ir_reredoskeep_RebuildOn, rawsD, h1, x1, h2, x2, h3, x3, h4, x4, h5, x5, f1, p1, f2, p2, f3, p3, f4, p4, f5, p5]
  omega
end
end Go.Proofs.YtpkabalijooeaaaDoor
