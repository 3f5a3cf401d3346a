/-
  What is done to a store that may be leaves one that may be. No conditions but those that each theorem names.
-/
import Derived.Test.YtghehknnaifoeaaDoorStG
set_option linter.unusedVariables false
set_option linter.unusedSimpArgs false
namespace Go.Proofs.YtghehknnaifoeaaDoor
open Go Go.Vcg

/-! ### Items -/
theorem key_uniq {l : List It} (hs : sortK l) {x y : It} (hx : x ∈ l) (hy : y ∈ l) (h : x.key = y.key) : x = y := by
  obtain ⟨i, hi, rfl⟩ := List.getElem_of_mem hx
  obtain ⟨j, hj, rfl⟩ := List.getElem_of_mem hy
  rcases Nat.lt_trichotomy i j with h' | rfl | h'
  · have := hs i j hi hj h'; omega
  · rfl
  · have := hs j i hj hi h'; omega
theorem itemAt_none {l : List It} {k : Int} (h : ∀ x ∈ l, x.key ≠ k) : itemAt l k = ⟨k, 0, 0⟩ := by
  have hk : hasK l k = false := by
    rw [hasK, List.any_eq_false]
    intro x hx
    simpa using h x hx
  rw [itemAt, hk]; rfl
theorem itemAt_eq {l : List It} (hs : sortK l) {x : It} (hx : x ∈ l) {k : Int} (hk : x.key = k) : itemAt l k = x := by
  have h : hasK l k = true := by rw [hasK, List.any_eq_true]; exact ⟨x, hx, by simpa using hk⟩
  obtain ⟨hp, he⟩ := hasK_pos hs h
  rw [itemAt, if_pos h]
  have e : l.getD (posI l k) it0 = l[posI l k] := by simp [List.getD, hp]
  rw [e]
  exact key_uniq hs (List.getElem_mem hp) hx (by rw [he, hk])
theorem itemAt_cases {l : List It} (hs : sortK l) (k : Int) : (hasK l k = false ∧ (∀ x ∈ l, x.key ≠ k) ∧ itemAt l k = ⟨k, 0, 0⟩) ∨ (hasK l k = true ∧ itemAt l k ∈ l ∧ (itemAt l k).key = k) := by
  cases h : hasK l k
  · left
    refine ⟨rfl, fun x hx => ?_, by rw [itemAt, h]; rfl⟩
    have := List.any_eq_false.1 h x hx
    simpa using this
  · right
    obtain ⟨hp, he⟩ := hasK_pos hs h
    have e : itemAt l k = l[posI l k] := by rw [itemAt, if_pos h]; simp [List.getD, hp]
    rw [e]
    exact ⟨rfl, List.getElem_mem hp, he⟩
theorem mem_with {l : List It} (hs : sortK l) {k : Int} {y : It} : y ∈ withK l k ↔ y ∈ l ∨ (hasK l k = false ∧ y = ⟨k, 0, 0⟩) := by
  rcases itemAt_cases hs k with ⟨h, _⟩ | ⟨h, _⟩
  · have e : withK l k = insI l (posI l k) ⟨k, 0, 0⟩ := by rw [withK, h]; rfl
    rw [e]
    constructor
    · intro hy
      rcases mem_insI hy with rfl | hy
      · exact .inr ⟨h, rfl⟩
      · exact .inl hy
    · intro hy
      simp only [insI, List.append_assoc, List.mem_append, List.mem_singleton]
      rcases hy with hy | ⟨_, rfl⟩
      · rw [← List.take_append_drop (posI l k) l, List.mem_append] at hy
        rcases hy with hy | hy
        · exact .inl hy
        · exact .inr (.inr hy)
      · exact .inr (.inl rfl)
  · have e : withK l k = l := by rw [withK, if_pos h]
    rw [e, h]
    simp
theorem getD_with {l : List It} (hs : sortK l) (k : Int) : (withK l k).getD (posI l k) it0 = itemAt l k := by
  rcases itemAt_cases hs k with ⟨h, _, h3⟩ | ⟨h, _⟩
  · have e : withK l k = insI l (posI l k) ⟨k, 0, 0⟩ := by rw [withK, h]; rfl
    rw [e, insI_get _ (posI_spec hs k).1, h3]
  · rw [withK, if_pos h, itemAt, if_pos h]
theorem itemAt_key {l : List It} (hs : sortK l) (k : Int) : (itemAt l k).key = k := by
  rcases itemAt_cases hs k with ⟨_, _, h⟩ | ⟨_, _, h⟩
  · rw [h]
  · exact h
theorem mem_put {l : List It} (hs : sortK l) {k v : Int} {y : It} : y ∈ putIt l k v ↔ y = ⟨k, v, (itemAt l k).version + 1⟩ ∨ (y ∈ l ∧ y.key ≠ k) := by
  obtain ⟨h1, h2, h3, _⟩ := withK_spec hs k
  have hg := getD_with hs k
  rw [putIt, putAt, hg, itemAt_key hs]
  constructor
  · intro hy
    obtain ⟨j, hj, e⟩ := List.getElem_of_mem hy
    rw [List.getElem_set] at e
    split at e
    · exact .inl e.symm
    · rename_i hne
      right
      rw [List.length_set] at hj
      have hk : y.key ≠ k := by
        intro hk
        rw [← e] at hk
        have hg' : (withK l k)[posI l k].key = k := by
          simpa [List.getD, h2] using h3
        rcases Nat.lt_or_gt_of_ne hne with h' | h'
        · have := h1 _ _ h2 hj h'; omega
        · have := h1 _ _ hj h2 h'; omega
      have hm : y ∈ withK l k := e ▸ List.getElem_mem hj
      rcases (mem_with hs).1 hm with hm | ⟨_, rfl⟩
      · exact ⟨hm, hk⟩
      · exact absurd rfl hk
  · rintro (rfl | ⟨hy, hk⟩)
    · exact List.mem_iff_getElem.2 ⟨posI l k, by simpa using h2, by simp⟩
    · obtain ⟨j, hj, e⟩ := List.getElem_of_mem ((mem_with (k := k) hs).2 (.inl hy))
      refine List.mem_iff_getElem.2 ⟨j, by simpa using hj, ?_⟩
      rw [List.getElem_set, if_neg, e]
      rintro rfl
      refine hk ?_
      rw [← e]
      simpa [List.getD, hj] using h3
theorem itemAt_put {l : List It} (hs : sortK l) (k v k' : Int) : itemAt (putIt l k v) k' = if k' = k then ⟨k, v, (itemAt l k).version + 1⟩ else itemAt l k' := by
  have hs' := sortK_put hs k v
  split
  · rename_i h
    subst h
    exact itemAt_eq hs' ((mem_put hs).2 (.inl rfl)) rfl
  · rename_i h
    rcases itemAt_cases hs k' with ⟨_, h2, h3⟩ | ⟨_, h2, h3⟩
    · rw [h3]
      refine itemAt_none fun x hx => ?_
      rcases (mem_put hs).1 hx with rfl | ⟨hx, _⟩
      · exact fun e => h e.symm
      · exact h2 x hx
    · exact itemAt_eq hs' ((mem_put hs).2 (.inr ⟨h2, by rw [h3]; exact h⟩)) h3
/-- An item that may be, of a key below K and of a version up to m. -/
def itB (K m : Int) (x : It) : Prop := 0 ≤ x.key ∧ x.key < K ∧ 0 ≤ x.value ∧ x.value ≤ 1073741824 ∧ 1 ≤ x.version ∧ x.version ≤ m
theorem itB_okIt {x : It} {K m : Int} (h : itB K m x) (hK : K ≤ 8) (hm : m ≤ 1048576) : okIt x = true := by
  obtain ⟨h1, h2, h3, h4, h5, h6⟩ := h
  simp only [okIt, Bool.and_eq_true, decide_eq_true_eq]
  omega
theorem okIt_itB {x : It} (h : okIt x = true) : itB 8 1048576 x := by
  simp only [okIt, Bool.and_eq_true, decide_eq_true_eq] at h
  exact ⟨by omega, by omega, by omega, by omega, by omega, by omega⟩
/-- What a lock asks for may be put. -/
def lkB (K : Int) (x : Lk) : Prop := 0 ≤ x.key ∧ x.key < K ∧ 0 ≤ x.value ∧ x.value ≤ 1073741824
theorem itB_put {l : List It} (hs : sortK l) {K m : Int} (hm : 0 ≤ m) (h : ∀ x ∈ l, itB K m x) {x : Lk} (hx : lkB K x) : ∀ y ∈ putIt l x.key x.value, itB K (m + 1) y := by
  intro y hy
  obtain ⟨g1, g2, g3, g4⟩ := hx
  rcases (mem_put hs).1 hy with rfl | ⟨hy, _⟩
  · have hv : 0 ≤ (itemAt l x.key).version ∧ (itemAt l x.key).version ≤ m := by
      rcases itemAt_cases hs x.key with ⟨_, _, h3⟩ | ⟨_, h2, _⟩
      · rw [h3]; exact ⟨by simp, hm⟩
      · have := h _ h2
        exact ⟨by have := this.2.2.2.2.1; omega, this.2.2.2.2.2⟩
    exact ⟨g1, g2, g3, g4, by simp only; omega, by simp only; omega⟩
  · obtain ⟨a1, a2, a3, a4, a5, a6⟩ := h y hy
    exact ⟨a1, a2, a3, a4, a5, by omega⟩
theorem its_end (t : Tx) (yes : Bool) {K : Int} : ∀ (locks : List Lk) (l : List It) (m : Int), sortK l → 0 ≤ m → (∀ x ∈ l, itB K m x) → (∀ x ∈ locks, lkB K x) → sortK (endIts t yes locks l) ∧ ∀ x ∈ endIts t yes locks l, itB K (m + locks.length) x
  | [], l, m, hs, hm, h, hl => by simpa [endIts] using ⟨hs, h⟩
  | x :: locks, l, m, hs, hm, h, hl => by
    have e : endIts t yes (x :: locks) l = endIts t yes locks (stepE t yes l x) := rfl
    have h1 : sortK (stepE t yes l x) ∧ ∀ y ∈ stepE t yes l x, itB K (m + 1) y := by
      unfold stepE
      split
      · exact ⟨sortK_put hs _ _, itB_put hs hm h (hl x (by simp))⟩
      · refine ⟨hs, fun y hy => ?_⟩
        obtain ⟨a1, a2, a3, a4, a5, a6⟩ := h y hy
        exact ⟨a1, a2, a3, a4, a5, by omega⟩
    obtain ⟨g1, g2⟩ := its_end t yes locks (stepE t yes l x) (m + 1) h1.1 (by omega) h1.2 (fun y hy => hl y (by simp [hy]))
    rw [e]
    refine ⟨g1, fun y hy => ?_⟩
    have := g2 y hy
    simp only [itB, List.length_cons] at this ⊢
    omega
theorem endIts_others (t : Tx) (yes : Bool) : ∀ (locks : List Lk) (l : List It), (∀ x ∈ locks, isTx x.site x.n t = false) → endIts t yes locks l = l
  | [], l, _ => rfl
  | x :: locks, l, h => by
    have e : endIts t yes (x :: locks) l = endIts t yes locks (stepE t yes l x) := rfl
    rw [e, stepE, h x (by simp)]
    exact endIts_others t yes locks l fun y hy => h y (by simp [hy])
theorem endIts_append (t : Tx) (yes : Bool) (l : List It) (a b : List Lk) : endIts t yes (a ++ b) l = endIts t yes b (endIts t yes a l) := by
  simp [endIts, List.foldl_append]

/-! ### Words -/
def lkR (x : Lk) : Bool := decide (0 ≤ x.key) && decide (x.key < 8) && decide (0 ≤ x.value) && decide (x.value ≤ 1073741824) && decide (0 ≤ x.ask) && decide (x.ask ≤ 1048576) && (x.wr || decide (x.value + x.ask = 0))
theorem doubted_iff {s : Sto} {t : Tx} : doubtedB s t = true ↔ ∃ d ∈ s.doubts, d.site = t.1 ∧ d.n = t.2 := by
  simp [doubtedB, isTx]
theorem okLk_iff {s : Sto} {x : Lk} : okLk s x = true ↔ (∃ d ∈ s.doubts, d.site = x.site ∧ d.n = x.n) ∧ lkR x = true := by
  rw [← doubted_iff (t := (x.site, x.n))]
  simp only [okLk, lkR, Bool.and_eq_true, and_assoc]
theorem okDb_iff {s : Sto} {d : Db} : okDb s d = true ↔ okTx d.site d.n = true ∧ 0 ≤ d.age ∧ d.age ≤ 1048576 ∧ (∀ u ∈ s.over, ¬ (u.1 = d.site ∧ u.2 = d.n)) ∧ ∃ x ∈ s.locks, x.site = d.site ∧ x.n = d.n := by
  simp only [okDb, Bool.and_eq_true, decide_eq_true_eq, and_assoc, Bool.not_eq_true', List.any_eq_false, List.any_eq_true, isTx]
theorem over_iff {s : Sto} {t : Tx} : overB s t = true ↔ t ∈ s.over := by
  simp only [overB, List.any_eq_true, isTx_iff]
  constructor
  · rintro ⟨u, hu, rfl⟩; exact hu
  · exact fun h => ⟨t, h, rfl⟩
theorem clash_iff {y x : Lk} : clash y x = false ↔ (y.key = x.key → ¬ (y.site = x.site ∧ y.n = x.n) ∧ y.wr = false ∧ x.wr = false) := by
  obtain ⟨a1, a2, a3, a4, a5, a6⟩ := y
  obtain ⟨b1, b2, b3, b4, b5, b6⟩ := x
  cases a4 <;> cases b4 <;> simp [clash]
theorem clash_symm {y x : Lk} (h : clash y x = false) : clash x y = false := by
  rw [clash_iff] at h ⊢
  intro e
  obtain ⟨h1, h2, h3⟩ := h e.symm
  exact ⟨fun e => h1 ⟨e.1.symm, e.2.symm⟩, h3, h2⟩
theorem busy_iff {s : Sto} {t : Tx} {k : Int} {all : Bool} : busyB s t k all = false ↔ ∀ x ∈ s.locks, x.key = k → (x.site = t.1 ∧ x.n = t.2) ∨ (all = false ∧ x.wr = false) := by
  simp only [busyB, List.any_eq_false, isTx]
  refine forall_congr' fun x => forall_congr' fun _ => ?_
  cases all <;> cases x.wr <;> simp
theorem lockI_neg {s : Sto} {t : Tx} {k : Int} : lockI s t k < 0 ↔ ∀ x ∈ s.locks, ¬ (x.site = t.1 ∧ x.n = t.2 ∧ x.key = k) := by
  have h := idxOf_ge (fun x : Lk => isTx x.site x.n t && decide (x.key = k)) s.locks
  have e : (lockI s t k < 0) ↔ (s.locks.any fun x : Lk => isTx x.site x.n t && decide (x.key = k)) = false := by
    rw [← h, lockI]
    simp
  rw [e, List.any_eq_false]
  refine forall_congr' fun x => forall_congr' fun _ => ?_
  simp [isTx, and_assoc]
theorem lockAt_spec {s : Sto} {t : Tx} {k : Int} (h : 0 ≤ lockI s t k) : ∃ i : Nat, lockI s t k = i ∧ ∃ hi : i < s.locks.length, s.locks[i].site = t.1 ∧ s.locks[i].n = t.2 ∧ s.locks[i].key = k ∧ lockAt s (lockI s t k) = s.locks[i] := by
  have ha : (s.locks.any fun x : Lk => isTx x.site x.n t && decide (x.key = k)) = true := by
    have h' := idxOf_ge (fun x : Lk => isTx x.site x.n t && decide (x.key = k)) s.locks
    rw [← h']
    simpa [lockI] using h
  have e : lockI s t k = ((s.locks.findIdx fun x : Lk => isTx x.site x.n t && decide (x.key = k) : Nat) : Int) := by
    rw [lockI, idxOf, if_pos ha]
  have hl : (s.locks.findIdx fun x : Lk => isTx x.site x.n t && decide (x.key = k)) < s.locks.length := by
    rw [List.findIdx_lt_length]
    simpa using ha
  refine ⟨_, e, hl, ?_⟩
  have hg := List.findIdx_getElem (w := hl)
  rw [Bool.and_eq_true, decide_eq_true_eq] at hg
  have hg1 := of_decide_eq_true hg.1
  refine ⟨hg1.1, hg1.2, hg.2, ?_⟩
  rw [lockAt, e]
  simp [List.getD, hl]
theorem callE_ok {s : Sto} (h : okS s = true) {t : Tx} {k : Int} (ht : okTx t.1 t.2 = true) (hk : 0 ≤ k ∧ k < 8) : callE s t k = 0 := by
  rw [callE, if_pos h, if_pos ⟨ht, hk⟩]

/-! ### What is kept -/
theorem mem_handD {l : List Db} {t : Tx} {d : Db} (h : d ∈ handD l t) : d ∈ l ∨ (d = ⟨t.1, t.2, 0⟩ ∧ ∀ x ∈ l, ¬ (x.site = t.1 ∧ x.n = t.2)) := by
  unfold handD at h
  split at h
  · exact .inl h
  · rename_i hn
    rw [List.mem_append, List.mem_singleton] at h
    rcases h with h | rfl
    · exact .inl h
    · refine .inr ⟨rfl, fun x hx e => hn ?_⟩
      rw [List.any_eq_true]
      exact ⟨x, hx, by simpa [isTx] using e⟩
theorem handD_old {l : List Db} {t : Tx} {d : Db} (h : d ∈ l) : d ∈ handD l t := by
  unfold handD
  split
  · exact h
  · exact List.mem_append_left _ h
theorem handD_has (l : List Db) (t : Tx) : ∃ d ∈ handD l t, d.site = t.1 ∧ d.n = t.2 := by
  unfold handD
  split
  · rename_i h
    obtain ⟨d, hd, e⟩ := List.any_eq_true.1 h
    exact ⟨d, hd, by simpa [isTx] using e⟩
  · exact ⟨⟨t.1, t.2, 0⟩, by simp, rfl, rfl⟩
theorem okS_hand {s : Sto} (h : OkS s) {t : Tx} (ht : okTx t.1 t.2 = true) (ho : overB s t = false) {L : List Lk} (hL1 : ∀ y ∈ s.locks, ∃ z ∈ L, z.site = y.site ∧ z.n = y.n) (hL2 : ∀ z ∈ L, z ∈ s.locks ∨ (z.site = t.1 ∧ z.n = t.2 ∧ lkR z = true)) (hL3 : ∃ z ∈ L, z.site = t.1 ∧ z.n = t.2) (hL4 : L.Pairwise fun a b => clash a b = false) (hL5 : L.length ≤ 24) : OkS { s with locks := L, doubts := handD s.doubts t } where
  items := h.items
  sorted := h.sorted
  over := h.over
  over1 := h.over1
  locks1 := hL4
  few := hL5
  locks := by
    intro z hz
    rw [okLk_iff]
    rcases hL2 z hz with h' | ⟨h1, h2, h3⟩
    · obtain ⟨⟨d, hd, e⟩, hr⟩ := okLk_iff.1 (h.locks z h')
      exact ⟨⟨d, handD_old hd, e⟩, hr⟩
    · obtain ⟨d, hd, e1, e2⟩ := handD_has s.doubts t
      exact ⟨⟨d, hd, by rw [e1, h1], by rw [e2, h2]⟩, h3⟩
  doubts := by
    intro d hd
    rw [okDb_iff]
    rcases mem_handD hd with hd | ⟨rfl, _⟩
    · obtain ⟨h1, h2, h3, h4, x, hx, h5, h6⟩ := okDb_iff.1 (h.doubts d hd)
      obtain ⟨z, hz, e1, e2⟩ := hL1 x hx
      exact ⟨h1, h2, h3, h4, z, hz, by rw [e1, h5], by rw [e2, h6]⟩
    · refine ⟨ht, by simp, by simp, fun u hu e => ?_, hL3⟩
      have : overB s t = true := over_iff.2 (by
        have : u = t := Prod.ext e.1 e.2
        exact this ▸ hu)
      rw [ho] at this; cases this
  doubts1 := by
    show (handD s.doubts t).Pairwise _
    unfold handD
    split
    · exact h.doubts1
    · rename_i hn
      rw [List.pairwise_append]
      refine ⟨h.doubts1, by simp, fun a ha b hb e => hn ?_⟩
      rw [List.mem_singleton] at hb
      subst hb
      rw [List.any_eq_true]
      exact ⟨a, ha, by simpa [isTx, sameD] using e⟩
theorem okS_lock {s : Sto} (h : OkS s) {t : Tx} (ht : okTx t.1 t.2 = true) (ho : overB s t = false) {x : Lk} (hx : x.site = t.1 ∧ x.n = t.2) (hr : lkR x = true) (hl : s.locks.length < 24) (hn : lockI s t x.key < 0) (hb : busyB s t x.key x.wr = false) : OkS { s with locks := s.locks ++ [x], doubts := handD s.doubts t } := by
  refine okS_hand h ht ho (fun y hy => ⟨y, by simp [hy], rfl, rfl⟩) ?_ ⟨x, by simp, hx⟩ ?_ (by simp; omega)
  · intro z hz
    rw [List.mem_append, List.mem_singleton] at hz
    rcases hz with hz | rfl
    · exact .inl hz
    · exact .inr ⟨hx.1, hx.2, hr⟩
  · rw [List.pairwise_append]
    refine ⟨h.locks1, by simp, fun a ha b hb' => ?_⟩
    rw [List.mem_singleton] at hb'
    subst hb'
    rw [clash_iff]
    intro e
    have h1 := lockI_neg.1 hn a ha
    have h2 : ¬ (a.site = t.1 ∧ a.n = t.2) := fun e' => h1 ⟨e'.1, e'.2, e⟩
    rcases busy_iff.1 hb a ha e with h3 | ⟨h3, h4⟩
    · exact absurd h3 h2
    · exact ⟨by rw [hx.1, hx.2]; exact h2, h4, h3⟩
theorem okS_relock {s : Sto} (h : OkS s) {t : Tx} (ht : okTx t.1 t.2 = true) (ho : overB s t = false) {x : Lk} (hx : x.site = t.1 ∧ x.n = t.2) (hr : lkR x = true) {i : Nat} (hi : i < s.locks.length) (h1 : s.locks[i].site = t.1) (h2 : s.locks[i].n = t.2) (h3 : s.locks[i].key = x.key) (hb : busyB s t x.key true = false) : OkS { s with locks := s.locks.set i x, doubts := handD s.doubts t } := by
  have hall : ∀ j (hj : j < s.locks.length), j ≠ i → clash s.locks[j] x = false := by
    intro j hj hne
    rw [clash_iff]
    intro e
    have hc : clash s.locks[j] s.locks[i] = false := by
      rcases Nat.lt_or_gt_of_ne hne with h' | h'
      · exact List.pairwise_iff_getElem.1 h.locks1 j i hj hi h'
      · exact clash_symm (List.pairwise_iff_getElem.1 h.locks1 i j hi hj h')
    have := (clash_iff.1 hc (by rw [e, h3])).1
    rcases busy_iff.1 hb _ (List.getElem_mem hj) e with h4 | ⟨h4, _⟩
    · exact absurd ⟨by rw [h4.1, h1], by rw [h4.2, h2]⟩ this
    · cases h4
  refine okS_hand h ht ho ?_ ?_ ⟨x, List.mem_iff_getElem.2 ⟨i, by simpa using hi, by simp⟩, hx⟩ ?_ (by simpa using h.few)
  · intro y hy
    obtain ⟨j, hj, rfl⟩ := List.getElem_of_mem hy
    refine ⟨(s.locks.set i x)[j]'(by simpa using hj), List.getElem_mem _, ?_⟩
    rw [List.getElem_set]
    split
    · rename_i e
      subst e
      exact ⟨by rw [hx.1, h1], by rw [hx.2, h2]⟩
    · exact ⟨rfl, rfl⟩
  · intro z hz
    rcases List.mem_or_eq_of_mem_set hz with hz | rfl
    · exact .inl hz
    · exact .inr ⟨hx.1, hx.2, hr⟩
  · rw [List.pairwise_iff_getElem]
    intro a b ha hb' hab
    rw [List.length_set] at ha hb'
    rw [List.getElem_set, List.getElem_set]
    split
    · rename_i e
      subst e
      rw [if_neg (by omega)]
      exact clash_symm (hall b hb' (by omega))
    · split
      · rename_i e
        subst e
        exact hall a ha (by omega)
      · exact List.pairwise_iff_getElem.1 h.locks1 a b ha hb' hab
theorem mem_overL {l : List Tx} {t u : Tx} : u ∈ overL l t ↔ u ∈ l ∨ u = t := by
  unfold overL
  split
  · rename_i h
    obtain ⟨v, hv, e⟩ := List.any_eq_true.1 h
    rw [isTx_iff] at e
    subst e
    constructor
    · exact .inl
    · rintro (h | rfl)
      · exact h
      · exact hv
  · rw [List.mem_append, List.mem_singleton]
theorem okS_end {s : Sto} (h : OkS s) {t : Tx} (ht : okTx t.1 t.2 = true) (yes : Bool) {K m : Int} (hK : K ≤ 8) (hm : 0 ≤ m ∧ m + 24 ≤ 1048576) (hi : ∀ x ∈ s.items, itB K m x) (hl : ∀ x ∈ s.locks, lkB K x) : OkS (endS s t yes).1 := by
  have hc : callE s t 0 = 0 := callE_ok ((okS_iff s).2 h) ht ⟨by omega, by omega⟩
  obtain ⟨g1, g2⟩ := its_end t yes s.locks s.items m h.sorted hm.1 hi hl
  rw [endS, if_neg (by simp [hc])]
  refine ⟨fun x hx => itB_okIt (g2 x hx) hK (by have := h.few; omega), g1, ?_, ?_, ?_, ?_, ?_, ?_, ?_⟩
  · intro d hd
    rw [List.mem_filter] at hd
    obtain ⟨hd, hn⟩ := hd
    have hn' : ¬ (d.site = t.1 ∧ d.n = t.2) := by
      intro e
      simp [isTx, e.1, e.2] at hn
    obtain ⟨h1, h2, h3, h4, x, hx, h5, h6⟩ := okDb_iff.1 (h.doubts d hd)
    rw [okDb_iff]
    refine ⟨h1, h2, h3, fun u hu e => ?_, x, ?_, h5, h6⟩
    · rcases mem_overL.1 hu with hu | rfl
      · exact h4 u hu e
      · exact hn' ⟨e.1.symm, e.2.symm⟩
    · rw [List.mem_filter]
      refine ⟨hx, ?_⟩
      simp only [isTx, h5, h6, decide_eq_false hn']
      rfl
  · exact h.doubts1.sublist List.filter_sublist
  · intro u hu
    rcases mem_overL.1 hu with hu | rfl
    · exact h.over u hu
    · exact ht
  · show (overL s.over t).Pairwise _
    unfold overL
    split
    · exact h.over1
    · rename_i hn
      rw [List.pairwise_append]
      refine ⟨h.over1, by simp, fun a ha b hb e => hn ?_⟩
      rw [List.mem_singleton] at hb
      subst hb
      rw [List.any_eq_true]
      exact ⟨a, ha, isTx_iff.2 e⟩
  · intro x hx
    rw [List.mem_filter] at hx
    obtain ⟨hx, hn⟩ := hx
    obtain ⟨⟨d, hd, e1, e2⟩, hr⟩ := okLk_iff.1 (h.locks x hx)
    rw [okLk_iff]
    refine ⟨⟨d, ?_, e1, e2⟩, hr⟩
    rw [List.mem_filter]
    refine ⟨hd, ?_⟩
    rw [e1, e2]
    exact hn
  · exact h.locks1.sublist List.filter_sublist
  · exact Nat.le_trans (List.length_filter_le _ _) h.few
end Go.Proofs.YtghehknnaifoeaaDoor
