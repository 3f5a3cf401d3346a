/-
  Desks: what holds of one that may be, in another form; whatever is called and heard, it stays so. No conditions but those that each theorem names.
-/
import Derived.Test.YtchbnpjegacobaaDoorCoV
set_option linter.unusedVariables false
set_option linter.unusedSimpArgs false
namespace Go.Proofs.YtchbnpjegacobaaDoor
open Go Go.Vcg

theorem insI_mem (x : Int) (A : List Int) (y : Int) : y ∈ insI x A ↔ y = x ∨ y ∈ A := by
  have h : y ∈ A ↔ y ∈ A.take (posI x A) ∨ y ∈ A.drop (posI x A) := by
    rw [← List.mem_append, List.take_append_drop]
  simp only [insI, List.mem_append, List.mem_cons, h]
  constructor
  · rintro (h | h | h)
    · exact Or.inr (Or.inl h)
    · exact Or.inl h
    · exact Or.inr (Or.inr h)
  · rintro (h | h | h)
    · exact Or.inr (Or.inl h)
    · exact Or.inl h
    · exact Or.inr (Or.inr h)
theorem insI_sorted {x : Int} {A : List Int} (h : A.Pairwise (· < ·)) (hx : x ∉ A) : (insI x A).Pairwise (· < ·) := by
  obtain ⟨p1, p2, p3⟩ := posI_spec x A
  have hi := List.pairwise_iff_getElem.1 h
  simp only [insI]
  generalize posI x A = j at p1 p2 p3
  rw [List.pairwise_append]
  refine ⟨h.sublist (List.take_sublist _ _), ?_, ?_⟩
  · rw [List.pairwise_cons]
    refine ⟨?_, h.sublist (List.drop_sublist _ _)⟩
    intro y hy
    obtain ⟨t, ht, rfl⟩ := List.getElem_of_mem hy
    rw [List.getElem_drop]
    have ht' : j + t < A.length := by simp at ht; omega
    exact p2 (j + t) ht' (by omega)
  · intro a ha b hb
    obtain ⟨t, ht, rfl⟩ := List.getElem_of_mem ha
    have htj : t < j := by simp at ht; omega
    have htl : t < A.length := by omega
    rw [List.getElem_take]
    have hax : A[t] < x := by
      have hl : j - 1 < A.length := by omega
      have h1 := p3 hl (by omega)
      have h2 : A[j - 1] ≠ x := fun e => hx (by rw [← e]; exact List.getElem_mem _)
      by_cases e : t = j - 1
      · subst e; omega
      · have := hi t (j - 1) htl hl (by omega); omega
    rcases List.mem_cons.1 hb with rfl | hb
    · exact hax
    · obtain ⟨q, hq, rfl⟩ := List.getElem_of_mem hb
      rw [List.getElem_drop]
      have hq' : j + q < A.length := by simp at hq; omega
      exact hi t (j + q) htl hq' (by omega)
theorem isort_spec : ∀ (l A : List Int), A.Pairwise (· < ·) → l.Nodup → (∀ x ∈ l, x ∉ A) → (l.foldl (fun A x => insI x A) A).Pairwise (· < ·) ∧ ∀ y, y ∈ l.foldl (fun A x => insI x A) A ↔ y ∈ A ∨ y ∈ l
  | [], A, h, _, _ => ⟨h, by simp⟩
  | x :: l, A, h, hn, hd => by
    rw [List.nodup_cons] at hn
    have hx := hd x List.mem_cons_self
    obtain ⟨h1, h2⟩ := isort_spec l (insI x A) (insI_sorted h hx) hn.2 (fun y hy hm => by
      rcases (insI_mem x A y).1 hm with rfl | hm
      · exact hn.1 hy
      · exact hd y (List.mem_cons_of_mem _ hy) hm)
    rw [List.foldl_cons]
    refine ⟨h1, fun y => ?_⟩
    rw [h2 y, insI_mem, List.mem_cons]
    constructor
    · rintro ((h | h) | h)
      · exact Or.inr (Or.inl h)
      · exact Or.inl h
      · exact Or.inr (Or.inr h)
    · rintro (h | h | h)
      · exact Or.inl (Or.inr h)
      · exact Or.inl (Or.inl h)
      · exact Or.inr h
theorem sitesU_spec (S l : Int) : ∀ (ts : List Tk) (A : List Int), A.Nodup → (ts.foldl (fun A t => if t.label = l ∧ ¬ t.key.tmod S ∈ A then A ++ [t.key.tmod S] else A) A).Nodup ∧ ∀ y, y ∈ ts.foldl (fun A t => if t.label = l ∧ ¬ t.key.tmod S ∈ A then A ++ [t.key.tmod S] else A) A ↔ y ∈ A ∨ ∃ t ∈ ts, t.label = l ∧ y = t.key.tmod S
  | [], A, h => ⟨h, by simp⟩
  | t :: ts, A, h => by
    rw [List.foldl_cons]
    by_cases hc : t.label = l ∧ ¬ t.key.tmod S ∈ A
    · rw [if_pos hc]
      have hn : (A ++ [t.key.tmod S]).Nodup := by
        rw [List.nodup_append]
        refine ⟨h, by simp, fun a ha b hb => ?_⟩
        simp only [List.mem_singleton] at hb
        intro e
        exact hc.2 (by rw [← hb, ← e]; exact ha)
      obtain ⟨h1, h2⟩ := sitesU_spec S l ts _ hn
      refine ⟨h1, fun y => ?_⟩
      rw [h2 y, List.mem_append, List.mem_singleton]
      constructor
      · rintro ((h | h) | ⟨u, hu, h⟩)
        · exact Or.inl h
        · exact Or.inr ⟨t, List.mem_cons_self, hc.1, h⟩
        · exact Or.inr ⟨u, List.mem_cons_of_mem _ hu, h⟩
      · rintro (h | ⟨u, hu, h⟩)
        · exact Or.inl (Or.inl h)
        · rcases List.mem_cons.1 hu with rfl | hu
          · exact Or.inl (Or.inr h.2)
          · exact Or.inr ⟨u, hu, h⟩
    · rw [if_neg hc]
      obtain ⟨h1, h2⟩ := sitesU_spec S l ts A h
      refine ⟨h1, fun y => ?_⟩
      rw [h2 y]
      constructor
      · rintro (h | ⟨u, hu, h⟩)
        · exact Or.inl h
        · exact Or.inr ⟨u, List.mem_cons_of_mem _ hu, h⟩
      · rintro (h | ⟨u, hu, h⟩)
        · exact Or.inl h
        · rcases List.mem_cons.1 hu with rfl | hu
          · by_cases hm : u.key.tmod S ∈ A
            · exact Or.inl (by rw [h.2]; exact hm)
            · exact absurd ⟨h.1, hm⟩ hc
          · exact Or.inr ⟨u, hu, h⟩
theorem sitesF_spec (S l : Int) (ts : List Tk) : (sitesF S l ts).Pairwise (· < ·) ∧ ∀ y, y ∈ sitesF S l ts ↔ ∃ t ∈ ts, t.label = l ∧ y = t.key.tmod S := by
  obtain ⟨h1, h2⟩ := sitesU_spec S l ts [] List.nodup_nil
  obtain ⟨h3, h4⟩ := isort_spec (sitesU S l ts) [] List.Pairwise.nil h1 (by simp)
  refine ⟨h3, fun y => ?_⟩
  have h5 := h4 y
  have h6 := h2 y
  simp only [List.not_mem_nil, false_or] at h5 h6
  exact h5.trans h6
theorem okUpto_of {S : Int} {l : List Int} (h : l.Pairwise (· < ·)) (hr : ∀ y ∈ l, 0 ≤ y ∧ y < S) : okUpto S l l.length := by
  intro i hi
  have h1 : l.getD i 0 = l[i] := by simp [List.getD, hi]
  have h2 := hr l[i] (List.getElem_mem hi)
  refine ⟨by rw [h1]; exact h2.1, by rw [h1]; exact h2.2, fun h0 => ?_⟩
  have hl : i - 1 < l.length := by omega
  have h3 : l.getD (i - 1) 0 = l[i - 1] := by simp [List.getD, hl]
  rw [h1, h3]
  exact List.pairwise_iff_getElem.1 h (i - 1) i hl hi (by omega)
theorem okUpto_lt {S : Int} {l : List Int} (h : okUpto S l l.length) {a : Nat} : ∀ b, a < b → b < l.length → l.getD a 0 < l.getD b 0
  | 0, h1, _ => by omega
  | b + 1, h1, hb => by
    have h2 := (h (b + 1) hb).2.2 (by omega)
    simp only [Nat.add_sub_cancel] at h2
    by_cases e : a = b
    · subst e; exact h2
    · have := okUpto_lt h (a := a) b (by omega) (by omega); omega
theorem okUpto_to {S : Int} {l : List Int} (h : okUpto S l l.length) : l.Pairwise (· < ·) ∧ ∀ y ∈ l, 0 ≤ y ∧ y < S := by
  refine ⟨List.pairwise_iff_getElem.2 fun a b ha hb hab => ?_, fun y hy => ?_⟩
  · have := okUpto_lt h (a := a) b hab hb
    simpa [List.getD, ha, hb] using this
  · obtain ⟨t, ht, rfl⟩ := List.getElem_of_mem hy
    have := h t ht
    rw [show l.getD t 0 = l[t] by simp [List.getD, ht]] at this
    exact ⟨this.1, this.2.1⟩

/-- Tasks that may be. -/
def okTL (nl : Nat) (j : Jb) : Prop := (∀ t ∈ j.tasks, okTk nl t = true ∧ t.ask ≤ j.asks) ∧ j.tasks.Pairwise (fun a b => a.ask < b.ask) ∧ ∀ i (hi : i < j.tasks.length), j.tasks[i].done = false → j.tasks.length ≤ i + 1 ∧ j.state = 1
theorem okTks_lt {nl : Nat} {j : Jb} (h : okTks nl j j.tasks.length) {a : Nat} : ∀ b, a < b → b < j.tasks.length → (j.tasks.getD a tk0).ask < (j.tasks.getD b tk0).ask
  | 0, h1, _ => by omega
  | b + 1, h1, hb => by
    have h2 := (h (b + 1) hb).2.2.1 (by omega)
    simp only [Nat.add_sub_cancel] at h2
    by_cases e : a = b
    · subst e; exact h2
    · have := okTks_lt h (a := a) b (by omega) (by omega); omega
theorem getD_tk {l : List Tk} {i : Nat} (h : i < l.length) : l.getD i tk0 = l[i] := by simp [List.getD, h]
theorem okTks_iff {nl : Nat} {j : Jb} : okTks nl j j.tasks.length ↔ okTL nl j := by
  constructor
  · intro h
    refine ⟨fun t ht => ?_, List.pairwise_iff_getElem.2 fun a b ha hb hab => ?_, fun i hi hd => ?_⟩
    · obtain ⟨i, hi, rfl⟩ := List.getElem_of_mem ht
      have := h i hi
      rw [getD_tk hi] at this
      exact ⟨this.1, this.2.1⟩
    · have := okTks_lt h (a := a) b hab hb
      rw [getD_tk ha, getD_tk hb] at this
      exact this
    · have := h i hi
      rw [getD_tk hi] at this
      exact this.2.2.2 hd
  · rintro ⟨h1, h2, h3⟩ i hi
    rw [getD_tk hi]
    obtain ⟨a, b⟩ := h1 _ (List.getElem_mem hi)
    refine ⟨a, b, fun h0 => ?_, h3 i hi⟩
    have hl : i - 1 < j.tasks.length := by omega
    rw [getD_tk hl]
    exact List.pairwise_iff_getElem.1 h2 (i - 1) i hl hi (by omega)
/-- A job that may be, in another form. -/
structure OkJ (S : Int) (nl : Nat) (next : Int) (j : Jb) : Prop where
  n1 : 1 ≤ j.n
  n2 : j.n < next
  a1 : 0 ≤ j.age
  a2 : j.age ≤ 1048576
  s1 : 1 ≤ j.state
  s2 : j.state ≤ 3
  tl : j.tasks.length ≤ 10
  q1 : 0 ≤ j.asks
  q2 : j.asks ≤ 1048576
  ts : okTL nl j
  sk : j.asked.Pairwise (· < ·) ∧ ∀ y ∈ j.asked, 0 ≤ y ∧ y < S
  te : j.state = 3 ↔ j.asked ≠ []
theorem okJob_iff {S : Int} {nl : Nat} {next : Int} {j : Jb} : okJob S nl next j ↔ OkJ S nl next j := by
  have hne : 0 < j.asked.length ↔ j.asked ≠ [] := List.length_pos_iff
  constructor
  · rintro ⟨h1, h2, h3, h4, h5, h6, h7, h8, h9, h10, h11, h12⟩
    exact ⟨h1, h2, h3, h4, h5, h6, h7, h8, h9, okTks_iff.1 h10, okUpto_to h11, h12.trans hne⟩
  · rintro ⟨h1, h2, h3, h4, h5, h6, h7, h8, h9, h10, h11, h12⟩
    exact ⟨h1, h2, h3, h4, h5, h6, h7, h8, h9, okTks_iff.2 h10, okUpto_of h11.1 h11.2, h12.trans hne.symm⟩
/-- A desk that may be, in another form. -/
structure DkOk (S : Int) (nl : Nat) (next : Int) (js : List Jb) : Prop where
  n1 : 1 ≤ next
  n2 : next ≤ 1048577
  jl : js.length ≤ 6
  ok : ∀ j ∈ js, OkJ S nl next j
  up : js.Pairwise (fun a b => a.n < b.n)
theorem okJbs_iff {S : Int} {nl : Nat} {next : Int} {js : List Jb} : okJbs S nl next js js.length ↔ (∀ j ∈ js, OkJ S nl next j) ∧ js.Pairwise (fun a b => a.n < b.n) := by
  constructor
  · intro h
    refine ⟨fun j hj => ?_, List.pairwise_iff_getElem.2 fun a b ha hb hab => ?_⟩
    · obtain ⟨i, hi, rfl⟩ := List.getElem_of_mem hj
      have := okJbs_at h hi
      rw [jAt_eq hi] at this
      exact okJob_iff.1 this
    · have := okJbs_lt h (a := a) b hab hb
      rw [jAt_eq ha, jAt_eq hb] at this
      exact this
  · rintro ⟨h1, h2⟩ i hi
    have e1 : js.getD i jb0 = js[i] := jAt_eq hi
    rw [e1]
    refine ⟨okJob_iff.2 (h1 _ (List.getElem_mem hi)), fun h0 => ?_⟩
    have hl : i - 1 < js.length := by omega
    have e2 : js.getD (i - 1) jb0 = js[i - 1] := jAt_eq hl
    rw [e2]
    exact List.pairwise_iff_getElem.1 h2 (i - 1) i hl hi (by omega)
theorem chkD_iff {S P next : Int} {ls : List (Int × Int)} {js : List Jb} (hc : check S ls P = 0) : chkD S ls P next js = 0 ↔ DkOk S ls.length next js := by
  constructor
  · intro h
    obtain ⟨_, b, c, d, e⟩ := chkD_ok h
    obtain ⟨e1, e2⟩ := okJbs_iff.1 e
    exact ⟨b, c, d, e1, e2⟩
  · rintro ⟨b, c, d, e1, e2⟩
    unfold chkD
    rw [if_neg (by simpa using hc), if_neg (by omega)]
    exact jbsI_yes (okJbs_iff.2 ⟨e1, e2⟩)
theorem beg_zero {h : Hd} {next : Int} {js : List Jb} (hc : check h.S h.ls h.P = 0) (hd : DkOk h.S h.ls.length next js) (h1 : 0 ≤ h.l ∧ h.l < h.ls.length) (h2 : 0 ≤ h.me ∧ h.me < h.S) : begE h next js = 0 := by
  unfold begE
  have := (chkD_iff (P := h.P) hc).2 hd
  rw [if_neg (by simpa using this), if_neg (by omega), if_neg (by omega)]

theorem OkJ.mono {S : Int} {nl : Nat} {a b : Int} {j : Jb} (h : OkJ S nl a j) (hab : a ≤ b) : OkJ S nl b j :=
  ⟨h.n1, by have := h.n2; omega, h.a1, h.a2, h.s1, h.s2, h.tl, h.q1, h.q2, h.ts, h.sk, h.te⟩
theorem set_ns {js : List Jb} {i : Nat} (hi : i < js.length) {x : Jb} (hn : x.n = (jAt js i).n) : (js.set i x).map (fun j => j.n) = js.map (fun j => j.n) := by
  rw [List.map_set, hn, jAt_eq hi]
  apply List.ext_getElem (by simp)
  intro k h1 h2
  rw [List.getElem_set]
  split
  · rename_i e; subst e; simp
  · rfl
theorem up_iff {js : List Jb} : js.Pairwise (fun a b => a.n < b.n) ↔ (js.map (fun j => j.n)).Pairwise (· < ·) := by rw [List.pairwise_map]
theorem DkOk.set {S : Int} {nl : Nat} {next : Int} {js : List Jb} (h : DkOk S nl next js) {i : Nat} (hi : i < js.length) {x : Jb} (hx : OkJ S nl next x) (hn : x.n = (jAt js i).n) : DkOk S nl next (js.set i x) := by
  refine ⟨h.n1, h.n2, by simpa using h.jl, fun j hj => ?_, ?_⟩
  · rcases mem_set_or hj with rfl | hj
    · exact hx
    · exact h.ok j hj
  · rw [up_iff, set_ns hi hn, ← up_iff]; exact h.up
theorem delE_sub {α : Type} (l : List α) (i : Nat) : (delE l i).Sublist l := by
  have h1 : (delE l i) = l.take i ++ (l.drop i).drop 1 := by simp [delE, List.drop_drop, Nat.add_comm]
  rw [h1]
  conv => rhs; rw [← List.take_append_drop i l]
  exact List.Sublist.append (List.Sublist.refl _) (List.drop_sublist _ _)
theorem DkOk.del {S : Int} {nl : Nat} {next : Int} {js : List Jb} (h : DkOk S nl next js) (i : Nat) : DkOk S nl next (delE js i) :=
  ⟨h.n1, h.n2, by have := (delE_sub js i).length_le; have := h.jl; omega, fun j hj => h.ok j (mem_delE hj), h.up.sublist (delE_sub js i)⟩
theorem DkOk.begin {S : Int} {nl : Nat} {next : Int} {js : List Jb} (h : DkOk S nl next js) (h6 : js.length ≠ 6) (hn : next ≤ 1048576) : DkOk S nl (next + 1) (js ++ [⟨next, 1, [], [], 0, 0⟩]) := by
  refine ⟨by have := h.n1; omega, by omega, by have := h.jl; simp; omega, fun j hj => ?_, ?_⟩
  · rcases List.mem_append.1 hj with hj | hj
    · exact (h.ok j hj).mono (by omega)
    · simp only [List.mem_singleton] at hj
      subst hj
      exact ⟨h.n1, by simp only; omega, by simp only; omega, by simp only; omega, by simp only; omega, by simp only; omega, by simp, by simp only; omega, by simp only; omega, ⟨by simp, by simp, by simp⟩, ⟨by simp, by simp⟩, by simp⟩
  · rw [List.pairwise_append]
    refine ⟨h.up, by simp, fun a ha b hb => ?_⟩
    simp only [List.mem_singleton] at hb
    subst hb
    exact (h.ok a ha).n2
/-- All tasks are done. -/
def allDone (j : Jb) : Prop := ∀ t ∈ j.tasks, t.done = true
theorem OkJ.done {S : Int} {nl : Nat} {next : Int} {j : Jb} (h : OkJ S nl next j) (hs : j.state ≠ 1 ∨ ¬ waits j) : allDone j := by
  intro t ht
  obtain ⟨i, hi, rfl⟩ := List.getElem_of_mem ht
  cases hd : j.tasks[i].done
  · exfalso
    obtain ⟨h1, h2⟩ := h.ts.2.2 i hi hd
    rcases hs with hs | hs
    · exact hs h2
    · apply hs
      have he : j.tasks.length - 1 = i := by omega
      refine ⟨by omega, ?_⟩
      simp only [tkLast, he, getD_tk hi, hd]
  · rfl
theorem OkJ.key {S : Int} {nl : Nat} {next : Int} {j : Jb} (h : OkJ S nl next j) : ∀ t ∈ j.tasks, 0 ≤ t.key ∧ t.key < 8 := fun t ht => okTk_key (h.ts.1 t ht).1
theorem OkJ.tsS {S : Int} {nl : Nat} {next : Int} {j : Jb} (hS : 0 ≤ S) (hS4 : S ≤ 4) (h : OkJ S nl next j) : okTs j := okJob_ts hS hS4 (okJob_iff.2 h)
theorem cmS_spec {h : Hd} {j : Jb} (hS : 1 ≤ h.S) (hk : ∀ t ∈ j.tasks, 0 ≤ t.key ∧ t.key < 8) : (cmS h j).Pairwise (· < ·) ∧ (∀ y ∈ cmS h j, 0 ≤ y ∧ y < h.S) ∧ ∀ y, y ∈ cmS h j ↔ ∃ t ∈ j.tasks, t.label = h.l ∧ y = t.key.tmod h.S := by
  obtain ⟨h1, h2⟩ := sitesF_spec h.S h.l j.tasks
  refine ⟨h1, fun y hy => ?_, h2⟩
  obtain ⟨t, ht, _, rfl⟩ := (h2 y).1 hy
  have := hk t ht
  exact ⟨Int.tmod_nonneg _ (by omega), Int.tmod_lt_of_pos _ (by omega)⟩
theorem OkJ.state {S : Int} {nl : Nat} {next : Int} {j : Jb} (h : OkJ S nl next j) (hd : allDone j) {s a : Int} {L : List Int} (hs : 1 ≤ s ∧ s ≤ 3) (hL : L.Pairwise (· < ·) ∧ ∀ y ∈ L, 0 ≤ y ∧ y < S) (ht : s = 3 ↔ L ≠ []) (ha : 0 ≤ a ∧ a ≤ 1048576) : OkJ S nl next ⟨j.n, s, j.tasks, L, j.asks, a⟩ :=
  ⟨h.n1, h.n2, ha.1, ha.2, hs.1, hs.2, h.tl, h.q1, h.q2, ⟨h.ts.1, h.ts.2.1, fun i hi hf => by have := hd _ (List.getElem_mem hi); simp only at hf; rw [this] at hf; cases hf⟩, hL, ht⟩
theorem OkJ.asks {S : Int} {nl : Nat} {next : Int} {j : Jb} (h : OkJ S nl next j) (hs : j.state = 1) (hw : ¬ waits j) (h10 : j.tasks.length ≠ 10) (hq : j.asks ≠ 1048576) {t : Tk} (ht : ∀ q : Int, 1 ≤ q → q ≤ 1048576 → okTk nl ⟨t.wr, t.label, t.key, t.value, t.version, q, t.done, t.sure⟩ = true) : OkJ S nl next (tskJ j t) := by
  have hd := h.done (Or.inr hw)
  have htl := h.tl
  have hq1 := h.q1
  have hq2 := h.q2
  refine ⟨h.n1, h.n2, by simp [tskJ], by simp [tskJ], h.s1, h.s2, by simp [tskJ]; omega, by simp only [tskJ]; omega, by simp only [tskJ]; omega, ⟨fun u hu => ?_, ?_, ?_⟩, h.sk, h.te⟩
  · simp only [tskJ] at hu ⊢
    rcases List.mem_append.1 hu with hu | hu
    · have := h.ts.1 u hu; exact ⟨this.1, by omega⟩
    · simp only [List.mem_singleton] at hu
      subst hu
      exact ⟨ht _ (by omega) (by omega), by simp only; omega⟩
  · simp only [tskJ]
    rw [List.pairwise_append]
    refine ⟨h.ts.2.1, by simp, fun a ha b hb => ?_⟩
    simp only [List.mem_singleton] at hb
    subst hb
    have := (h.ts.1 a ha).2
    simp only; omega
  · intro i hi hf
    simp only [tskJ] at hi hf ⊢
    by_cases e : i < j.tasks.length
    · rw [List.getElem_append_left e] at hf
      have := hd _ (List.getElem_mem e)
      rw [this] at hf; cases hf
    · simp at hi ⊢
      exact ⟨by omega, hs⟩
theorem OkJ.take {S : Int} {nl : Nat} {next : Int} {j : Jb} (h : OkJ S nl next j) (k : Nat) (hk : k < j.tasks.length) : OkJ S nl next ⟨j.n, j.state, j.tasks.take k, j.asked, j.asks, 0⟩ := by
  refine ⟨h.n1, h.n2, by simp, by simp, h.s1, h.s2, by have := h.tl; simp; omega, h.q1, h.q2, ⟨fun u hu => h.ts.1 u (List.mem_of_mem_take hu), h.ts.2.1.sublist (List.take_sublist _ _), ?_⟩, h.sk, h.te⟩
  intro i hi hf
  simp only [List.getElem_take] at hf
  simp only [List.length_take] at hi
  have := (h.ts.2.2 i (by omega) hf).1
  omega
theorem OkJ.mapT {S : Int} {nl : Nat} {next : Int} {j : Jb} (h : OkJ S nl next j) (hd : allDone j) {g : Tk → Tk} (hg : ∀ t ∈ j.tasks, okTk nl t = true → t.done = true → okTk nl (g t) = true ∧ (g t).ask = t.ask ∧ (g t).done = true) : OkJ S nl next ⟨j.n, j.state, j.tasks.map g, j.asked, j.asks, j.age⟩ := by
  have hg' : ∀ t ∈ j.tasks, okTk nl (g t) = true ∧ (g t).ask = t.ask ∧ (g t).done = true := fun t ht => hg t ht (h.ts.1 t ht).1 (hd t ht)
  refine ⟨h.n1, h.n2, h.a1, h.a2, h.s1, h.s2, by simpa using h.tl, h.q1, h.q2, ⟨fun u hu => ?_, ?_, ?_⟩, h.sk, h.te⟩
  · simp only at hu
    obtain ⟨t, ht, rfl⟩ := List.mem_map.1 hu
    obtain ⟨g1, g2, g3⟩ := hg' t ht
    exact ⟨g1, by rw [g2]; exact (h.ts.1 t ht).2⟩
  · simp only
    rw [List.pairwise_map]
    exact h.ts.2.1.imp_of_mem fun {a b} ha hb hab => by rw [(hg' a ha).2.1, (hg' b hb).2.1]; exact hab
  · intro i hi hf
    simp only [List.getElem_map] at hf
    simp only [List.length_map] at hi
    have := (hg' _ (List.getElem_mem hi)).2.2
    rw [this] at hf; cases hf
end Go.Proofs.YtchbnpjegacobaaDoor
