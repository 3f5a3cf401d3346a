/-
  What holds of every store that comes of raw numbers: InvK. No conditions but those that each theorem names.
-/
import Derived.Test.YtghehknnaifoeaaDoorStH
set_option linter.unusedVariables false
set_option linter.unusedSimpArgs false
namespace Go.Proofs.YtghehknnaifoeaaDoor
open Go Go.Vcg

theorem read_cases {s : Sto} {t : Tx} {k : Int} (he : (readS s t k).2.2.2 = 0) : callE s t k = 0 ∧ ((0 ≤ lockI s t k ∧ (readS s t k).1 = s) ∨ (lockI s t k < 0 ∧ overB s t = false ∧ busyB s t k false = false ∧ s.locks.length ≠ 24 ∧ (readS s t k).1 = { s with locks := s.locks ++ [⟨t.1, t.2, k, false, 0, 0⟩], doubts := handD s.doubts t })) := by
  revert he
  unfold readS
  split
  · rename_i h; intro he; exact absurd he h
  rename_i h
  split
  · rename_i h2
    split
    · intro _; exact ⟨by simpa using h, .inl ⟨h2, rfl⟩⟩
    · intro _; exact ⟨by simpa using h, .inl ⟨h2, rfl⟩⟩
  rename_i h2
  split
  · intro he; cases he
  rename_i h3
  split
  · intro he; cases he
  rename_i h4
  split
  · intro he; cases he
  rename_i h5
  intro _
  exact ⟨by simpa using h, .inr ⟨by omega, by simpa using h3, by simpa using h4, h5, rfl⟩⟩
theorem write_cases {s : Sto} {t : Tx} {k v q : Int} (he : (writeS s t k v q).2 = 0) : callE s t k = 0 ∧ okVQ v q ∧ overB s t = false ∧ busyB s t k true = false ∧ (lockI s t k < 0 → s.locks.length ≠ 24) ∧ (writeS s t k v q).1 = { s with locks := putL s.locks (lockI s t k) ⟨t.1, t.2, k, true, v, q⟩, doubts := handD s.doubts t } := by
  revert he
  unfold writeS
  split
  · rename_i h; intro he; exact absurd he h
  rename_i h
  split
  · intro he; cases he
  rename_i h2
  split
  · intro he; cases he
  rename_i h3
  split
  · intro he; cases he
  rename_i h4
  split
  · intro he; cases he
  rename_i h5
  intro _
  refine ⟨by simpa using h, by simpa using h2, ?_, by simpa using h4, fun hl e => h5 (.inl ⟨hl, e⟩), rfl⟩
  cases ho : overB s t
  · rfl
  · exact absurd (.inl ho) h3
theorem lkR_of {x : Lk} (h1 : 0 ≤ x.key ∧ x.key < 8) (h2 : okVQ x.value x.ask) (h3 : x.wr = true) : lkR x = true := by
  obtain ⟨a, b, c, d⟩ := h2
  simp only [lkR, Bool.and_eq_true, decide_eq_true_eq, Bool.or_eq_true]
  exact ⟨⟨⟨⟨⟨⟨h1.1, h1.2⟩, a⟩, b⟩, c⟩, d⟩, .inl h3⟩
theorem lkR_read {a b k : Int} (h1 : 0 ≤ k ∧ k < 8) : lkR ⟨a, b, k, false, 0, 0⟩ = true := by
  simp [lkR, h1.1, h1.2]
theorem okS_read {s : Sto} {t : Tx} {k : Int} (h : OkS s) (he : (readS s t k).2.2.2 = 0) : OkS (readS s t k).1 := by
  obtain ⟨hc, h1 | ⟨h1, h2, h3, h4, h5⟩⟩ := read_cases he
  · rw [h1.2]; exact h
  · obtain ⟨_, ht, hk⟩ := callE_zero hc
    rw [h5]
    exact okS_lock h ht h2 (x := ⟨t.1, t.2, k, false, 0, 0⟩) ⟨rfl, rfl⟩ (lkR_read hk) (by have := h.few; omega) h1 h3
theorem okS_write {s : Sto} {t : Tx} {k v q : Int} (h : OkS s) (he : (writeS s t k v q).2 = 0) : OkS (writeS s t k v q).1 := by
  obtain ⟨hc, h1, h2, h3, h4, h5⟩ := write_cases he
  obtain ⟨_, ht, hk⟩ := callE_zero hc
  rw [h5]
  have hr : lkR ⟨t.1, t.2, k, true, v, q⟩ = true := lkR_of hk h1 rfl
  by_cases hl : lockI s t k < 0
  · rw [putL, if_pos hl]
    exact okS_lock h ht h2 (x := ⟨t.1, t.2, k, true, v, q⟩) ⟨rfl, rfl⟩ hr (by have := h.few; have := h4 hl; omega) hl h3
  · obtain ⟨i, hi, hi', e1, e2, e3, _⟩ := lockAt_spec (Int.not_lt.1 hl)
    rw [putL, if_neg hl, hi, Int.toNat_natCast]
    exact okS_relock h ht h2 (x := ⟨t.1, t.2, k, true, v, q⟩) ⟨rfl, rfl⟩ hr hi' e1 e2 e3 h3
/-- A store of so many operations on raw numbers. -/
structure InvK (n : Nat) (s : Sto) : Prop where
  ok : OkS s
  its : ∀ x ∈ s.items, itB 5 (24 * n : Nat) x
  lks : ∀ x ∈ s.locks, lkB 5 x ∧ 0 ≤ x.site ∧ x.site < 2 ∧ 1 ≤ x.n ∧ x.n ≤ 2
  ovs : ∀ t ∈ s.over, t.1 < 2
theorem invK_mono {n m : Nat} {s : Sto} (h : InvK n s) (hm : n ≤ m) : InvK m s := by
  refine ⟨h.ok, fun x hx => ?_, h.lks, h.ovs⟩
  obtain ⟨a, b, c, d, e, f⟩ := h.its x hx
  exact ⟨a, b, c, d, e, by omega⟩
theorem invK_s0 : InvK 0 s0 := ⟨(okS_iff _).1 okS_s0, by simp [s0], by simp [s0], by simp [s0]⟩
theorem invK_read {n : Nat} {s : Sto} (h : InvK n s) {t : Tx} {k : Int} (ht : 0 ≤ t.1 ∧ t.1 < 2 ∧ 1 ≤ t.2 ∧ t.2 ≤ 2) (hk : 0 ≤ k ∧ k < 5) (he : (readS s t k).2.2.2 = 0) : InvK n (readS s t k).1 := by
  have ho := okS_read h.ok he
  obtain ⟨hc, h1 | ⟨h1, h2, h3, h4, h5⟩⟩ := read_cases he
  · rw [h1.2]; exact h
  · refine ⟨ho, ?_, ?_, ?_⟩
    · rw [h5]; exact h.its
    · rw [h5]
      intro x hx
      simp only [List.mem_append, List.mem_singleton] at hx
      rcases hx with hx | rfl
      · exact h.lks x hx
      · exact ⟨⟨hk.1, hk.2, by simp, by simp⟩, ht⟩
    · rw [h5]; exact h.ovs
theorem invK_write {n : Nat} {s : Sto} (h : InvK n s) {t : Tx} {k v q : Int} (ht : 0 ≤ t.1 ∧ t.1 < 2 ∧ 1 ≤ t.2 ∧ t.2 ≤ 2) (hk : 0 ≤ k ∧ k < 5) (he : (writeS s t k v q).2 = 0) : InvK n (writeS s t k v q).1 := by
  have ho := okS_write h.ok he
  obtain ⟨hc, h1, h2, h3, h4, h5⟩ := write_cases he
  have hx0 : lkB 5 (⟨t.1, t.2, k, true, v, q⟩ : Lk) ∧ 0 ≤ t.1 ∧ t.1 < 2 ∧ 1 ≤ t.2 ∧ t.2 ≤ 2 := ⟨⟨hk.1, hk.2, h1.1, h1.2.1⟩, ht⟩
  refine ⟨ho, ?_, ?_, ?_⟩
  · rw [h5]; exact h.its
  · rw [h5]
    intro x hx
    simp only [putL] at hx
    split at hx
    · rw [List.mem_append, List.mem_singleton] at hx
      rcases hx with hx | rfl
      · exact h.lks x hx
      · exact hx0
    · rcases List.mem_or_eq_of_mem_set hx with hx | rfl
      · exact h.lks x hx
      · exact hx0
  · rw [h5]; exact h.ovs
theorem invK_end {n : Nat} {s : Sto} (h : InvK n s) (hn : n ≤ 1000) {t : Tx} (ht : 0 ≤ t.1 ∧ t.1 < 2 ∧ 1 ≤ t.2 ∧ t.2 ≤ 1048576) (yes : Bool) : InvK (n + 1) (endS s t yes).1 := by
  have ht' : okTx t.1 t.2 = true := by
    simp only [okTx, Bool.and_eq_true, decide_eq_true_eq]; omega
  have hl := fun x hx => (h.lks x hx).1
  have ho := okS_end h.ok ht' yes (K := 5) (m := (24 * n : Nat)) (by omega) (by omega) h.its hl
  obtain ⟨_, g2⟩ := its_end t yes s.locks s.items (24 * n : Nat) h.ok.sorted (by omega) h.its hl
  have hc : callE s t 0 = 0 := callE_ok ((okS_iff s).2 h.ok) ht' ⟨by omega, by omega⟩
  have e : (endS s t yes).1 = ⟨endIts t yes s.locks s.items, s.locks.filter (fun x => !isTx x.site x.n t), s.doubts.filter (fun x => !isTx x.site x.n t), overL s.over t⟩ := by
    rw [endS, if_neg (by simp [hc])]
  refine ⟨ho, ?_, ?_, ?_⟩
  · rw [e]
    intro x hx
    have := g2 x hx
    have hf := h.ok.few
    simp only [itB] at this ⊢
    omega
  · rw [e]
    exact fun x hx => h.lks x ((List.mem_filter.1 hx).1)
  · rw [e]
    intro u hu
    rcases mem_overL.1 hu with hu | rfl
    · exact h.ovs u hu
    · exact ht.2.1
theorem kTx_in (r : Rw) : 0 ≤ (kTx r).1 ∧ (kTx r).1 < 2 ∧ 1 ≤ (kTx r).2 ∧ (kTx r).2 ≤ 2 := by
  have h1 := pk_bounds r.a 2 (by decide)
  have h2 := pk_bounds r.b 2 (by decide)
  simp only [kTx]
  omega
theorem invK_step {n : Nat} {s : Sto} (h : InvK n s) (hn : n ≤ 1000) (r : Rw) : InvK (n + 1) (kStep s r) := by
  have h' := invK_mono h (Nat.le_succ n)
  have hk := pk_bounds r.c 5 (by decide)
  have ht := kTx_in r
  unfold kStep
  split
  · split
    · rename_i he; exact invK_mono (invK_read h ht hk he) (Nat.le_succ n)
    · exact h'
  split
  · split
    · rename_i he; exact invK_mono (invK_write h ht hk he) (Nat.le_succ n)
    · exact h'
  · split
    · exact invK_end h hn ⟨ht.1, ht.2.1, ht.2.2.1, by omega⟩ _
    · exact h'
theorem invK_steps (l : List Rw) : ∀ j, j ≤ l.length → j ≤ 1000 → InvK j (kSteps (l.take j))
  | 0, _, _ => by simpa [kSteps] using invK_s0
  | j + 1, hj, hn => by
    rw [kSteps_succ hj]
    exact invK_step (invK_steps l j (by omega) (by omega)) (by omega) _
theorem invK_store (l : List Rw) {m : Nat} (hm : m ≤ 1000) : InvK m (storeK l m) := by
  have e : l.take m = l.take (min m l.length) := by
    rcases Nat.le_total m l.length with h | h
    · rw [Nat.min_eq_left h]
    · rw [Nat.min_eq_right h, List.take_of_length_le h, List.take_length]
  rw [storeK, e]
  exact invK_mono (invK_steps l _ (Nat.min_le_right ..) (by omega)) (Nat.min_le_left ..)
theorem fewN_store (l : List Rw) (m : Nat) : fewN (storeK l m) m := by
  have e : l.take m = l.take (min m l.length) := by
    rcases Nat.le_total m l.length with h | h
    · rw [Nat.min_eq_left h]
    · rw [Nat.min_eq_right h, List.take_of_length_le h, List.take_length]
  rw [storeK, e]
  exact fewN_mono (fewN_steps l _ (Nat.min_le_right ..)) (Nat.min_le_left ..)
theorem nodup_lt : ∀ (n : Nat) (l : List Nat), l.Nodup → (∀ x ∈ l, x < n) → l.length ≤ n
  | 0, l, _, h => by
    cases l with
    | nil => simp
    | cons a l => exact absurd (h a (by simp)) (by omega)
  | n + 1, l, hd, h => by
    have h1 := nodup_lt n (l.erase n) (hd.erase n) (fun x hx => by
      have := h x (List.mem_of_mem_erase hx)
      have : x ≠ n := (hd.mem_erase_iff.1 hx).1
      omega)
    by_cases hm : n ∈ l
    · rw [List.length_erase_of_mem hm] at h1; omega
    · rw [List.erase_of_not_mem hm] at h1; omega
theorem few20 {n : Nat} {s : Sto} (h : InvK n s) : s.locks.length ≤ 20 := by
  have hc : ∀ x ∈ s.locks, 0 ≤ (x.site * 2 + (x.n - 1)) * 5 + x.key ∧ (x.site * 2 + (x.n - 1)) * 5 + x.key < 20 := by
    intro x hx
    obtain ⟨⟨a, b, _⟩, c, d, e, f⟩ := h.lks x hx
    omega
  have := nodup_lt 20 (s.locks.map fun x => ((x.site * 2 + (x.n - 1)) * 5 + x.key).toNat) ?_ ?_
  · simpa using this
  · rw [List.Nodup, List.pairwise_map]
    have hp : s.locks.Pairwise fun a b => a ∈ s.locks ∧ b ∈ s.locks ∧ clash a b = false := by
      rw [List.pairwise_iff_getElem]
      intro i j hi hj hij
      exact ⟨List.getElem_mem hi, List.getElem_mem hj, List.pairwise_iff_getElem.1 h.ok.locks1 i j hi hj hij⟩
    refine hp.imp ?_
    rintro a b ⟨ha, hb, hcl⟩ e
    obtain ⟨⟨a1, a2, _⟩, a3, a4, a5, a6⟩ := h.lks a ha
    obtain ⟨⟨b1, b2, _⟩, b3, b4, b5, b6⟩ := h.lks b hb
    have := clash_iff.1 hcl (by omega)
    exact this.1 ⟨by omega, by omega⟩
  · intro x hx
    rw [List.mem_map] at hx
    obtain ⟨y, hy, rfl⟩ := hx
    have := hc y hy
    omega
/-- A transaction that has no lock. -/
def noTx (s : Sto) (t : Tx) : Prop := ∀ x ∈ s.locks, isTx x.site x.n t = false
theorem noTx_new {n : Nat} {s : Sto} (h : InvK n s) {t : Tx} (ht : 2 ≤ t.1) : noTx s t := by
  intro x hx
  have := (h.lks x hx).2.2.1
  simp only [isTx, decide_eq_false_iff_not]
  rintro ⟨e, _⟩
  omega
theorem noTx_zero {n : Nat} {s : Sto} (h : InvK n s) (a : Int) : noTx s (a, 0) := by
  intro x hx
  have := (h.lks x hx).2.2.2.1
  simp only [isTx, decide_eq_false_iff_not]
  rintro ⟨_, e⟩
  omega
theorem over_new {n : Nat} {s : Sto} (h : InvK n s) {t : Tx} (ht : 2 ≤ t.1) : overB s t = false := by
  cases ho : overB s t
  · rfl
  · have := h.ovs t (over_iff.1 ho); omega
theorem lockI_noTx {s : Sto} {t : Tx} (h : noTx s t) (k : Int) : lockI s t k < 0 := by
  rw [lockI_neg]
  rintro x hx ⟨e1, e2, _⟩
  have := h x hx
  simp [isTx, e1, e2] at this
theorem busy_noTx {s : Sto} {t : Tx} (h : noTx s t) (k : Int) (all : Bool) : busyB s t k all = s.locks.any fun x => decide (x.key = k) && (all || x.wr) := by
  rw [busyB]
  have : ∀ (l : List Lk), (∀ x ∈ l, isTx x.site x.n t = false) → (l.any fun x => decide (x.key = k) && !isTx x.site x.n t && (all || x.wr)) = l.any fun x => decide (x.key = k) && (all || x.wr) := by
    intro l
    induction l with
    | nil => intro _; rfl
    | cons x l ih =>
      intro hl
      rw [List.any_cons, List.any_cons, ih fun y hy => hl y (by simp [hy]), hl x (by simp)]
      simp
  exact this s.locks h
/-- With one more lock. -/
def addL (s : Sto) (x : Lk) : Sto := { s with locks := s.locks ++ [x], doubts := handD s.doubts (x.site, x.n) }
theorem okTx_of {t : Tx} (h1 : 0 ≤ t.1 ∧ t.1 < 4) (h2 : 1 ≤ t.2 ∧ t.2 ≤ 1048576) : okTx t.1 t.2 = true := by
  simp only [okTx, Bool.and_eq_true, decide_eq_true_eq]; omega
theorem read_new {n : Nat} {s : Sto} (h : InvK n s) {t : Tx} (ht : 2 ≤ t.1 ∧ t.1 < 4) (h2 : 1 ≤ t.2 ∧ t.2 ≤ 1048576) {k : Int} (hk : 0 ≤ k ∧ k < 8) : readS s t k = if (s.locks.any fun x => decide (x.key = k) && x.wr) = true then (s0, 0, 0, 11) else (addL s ⟨t.1, t.2, k, false, 0, 0⟩, (itemAt s.items k).value, (itemAt s.items k).version, 0) := by
  have hc := callE_ok ((okS_iff s).2 h.ok) (okTx_of (t := t) (by omega) h2) hk
  have hnt := noTx_new h ht.1
  have hl := lockI_noTx hnt k
  have h20 := few20 h
  have hb := busy_noTx hnt k false
  simp only [Bool.false_or] at hb
  rw [readS, if_neg (by simp [hc]), if_neg (by omega), if_neg (by simp [over_new h ht.1]), hb]
  split
  · rfl
  · rw [if_neg (by omega)]
    rfl
theorem ver_new {n : Nat} {s : Sto} (h : InvK n s) (k : Int) : 0 ≤ (itemAt s.items k).version ∧ (itemAt s.items k).version ≤ 24 * n := by
  rcases itemAt_cases h.ok.sorted k with ⟨_, _, e⟩ | ⟨_, e, _⟩
  · rw [e]; simp only; omega
  · have := h.its _ e
    simp only [itB] at this
    omega
theorem write_new {n : Nat} {s : Sto} (h : InvK n s) (hn : n ≤ 1000) {t : Tx} (ht : 2 ≤ t.1 ∧ t.1 < 4) (h2 : 1 ≤ t.2 ∧ t.2 ≤ 1048576) {k v q : Int} (hk : 0 ≤ k ∧ k < 8) (hv : okVQ v q) : writeS s t k v q = if (s.locks.any fun x => decide (x.key = k)) = true then (s0, 11) else (addL s ⟨t.1, t.2, k, true, v, q⟩, 0) := by
  have hc := callE_ok ((okS_iff s).2 h.ok) (okTx_of (t := t) (by omega) h2) hk
  have hnt := noTx_new h ht.1
  have hl := lockI_noTx hnt k
  have h20 := few20 h
  have hb := busy_noTx hnt k true
  have hver := ver_new h k
  simp only [Bool.true_or, Bool.and_true] at hb
  rw [writeS, if_neg (by simp [hc]), if_neg (by simpa using hv), if_neg (by
    rintro (h' | ⟨h', _⟩)
    · rw [over_new h ht.1] at h'; cases h'
    · omega), hb]
  split
  · rfl
  · rw [if_neg (by
      rintro (⟨_, h'⟩ | h') <;> omega)]
    simp only [putL, if_pos hl]
    rfl
theorem peek_new {n : Nat} {s : Sto} (h : InvK n s) {k : Int} (hk : 0 ≤ k ∧ k < 8) : peekS s k = if (s.locks.any fun x => decide (x.key = k) && x.wr) = true then (0, 0, 11) else ((itemAt s.items k).value, (itemAt s.items k).version, 0) := by
  have hc : callE s (0, 1) k = 0 := callE_ok ((okS_iff s).2 h.ok) (by simp [okTx]) hk
  have hb := busy_noTx (noTx_zero h 0) k false
  simp only [Bool.false_or] at hb
  rw [peekS, if_neg (by simp [hc]), hb]
theorem okS_addL {n : Nat} {s : Sto} (h : InvK n s) {x : Lk} (ht : 2 ≤ x.site ∧ x.site < 4) (h2 : 1 ≤ x.n ∧ x.n ≤ 1048576) (hr : lkR x = true) (hb : (s.locks.any fun y => decide (y.key = x.key) && (x.wr || y.wr)) = false) : OkS (addL s x) := by
  have hnt := noTx_new h (t := (x.site, x.n)) ht.1
  refine okS_lock h.ok (okTx_of (t := (x.site, x.n)) (by simp only; omega) h2) (over_new h ht.1) ⟨rfl, rfl⟩ hr (by have := few20 h; omega) (lockI_noTx hnt _) ?_
  rw [busy_noTx hnt]
  exact hb
end Go.Proofs.YtghehknnaifoeaaDoor
