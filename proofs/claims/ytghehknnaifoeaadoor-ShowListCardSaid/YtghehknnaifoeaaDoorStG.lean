/-
  A store that may be, said of all members and of all pairs: OkS. No conditions but those that each theorem names.
-/
import Derived.Test.YtghehknnaifoeaaDoorStF
set_option linter.unusedVariables false
set_option linter.unusedSimpArgs false
namespace Go.Proofs.YtghehknnaifoeaaDoor
open Go Go.Vcg

theorem upto_iff {α : Type} {p : α → Prop} {q : α → α → Prop} {z : α} (l : List α) : (∀ i, i < l.length → p (l.getD i z) ∧ ∀ k, k < i → q (l.getD k z) (l.getD i z)) ↔ (∀ x ∈ l, p x) ∧ l.Pairwise q := by
  constructor
  · intro h
    refine ⟨fun x hx => ?_, List.pairwise_iff_getElem.2 fun i j hi hj hij => ?_⟩
    · obtain ⟨i, hi, rfl⟩ := List.getElem_of_mem hx
      simpa [List.getD, hi] using (h i hi).1
    · simpa [List.getD, hi, hj] using (h j hj).2 i hij
  · rintro ⟨h1, h2⟩ i hi
    refine ⟨?_, fun k hk => ?_⟩
    · simpa [List.getD, hi] using h1 _ (List.getElem_mem hi)
    · have hk' : k < l.length := by omega
      simpa [List.getD, hi, hk'] using List.pairwise_iff_getElem.1 h2 k i hk' hi hk
structure OkS (s : Sto) : Prop where
  items : ∀ x ∈ s.items, okIt x = true
  sorted : sortK s.items
  doubts : ∀ x ∈ s.doubts, okDb s x = true
  doubts1 : s.doubts.Pairwise fun a b => ¬ sameD a b
  over : ∀ x ∈ s.over, okTx x.1 x.2 = true
  over1 : s.over.Pairwise fun a b => a ≠ b
  locks : ∀ x ∈ s.locks, okLk s x = true
  locks1 : s.locks.Pairwise fun a b => clash a b = false
  few : s.locks.length ≤ 24
theorem okDoubts_iff (s : Sto) : okDoubts s s.doubts.length ↔ (∀ x ∈ s.doubts, okDb s x = true) ∧ s.doubts.Pairwise fun a b => ¬ sameD a b := by
  rw [okDoubts]
  exact upto_iff (p := fun x => okDb s x = true) (q := fun a b => ¬ sameD a b) s.doubts
theorem okLocks_iff (s : Sto) : okLocks s s.locks.length ↔ (∀ x ∈ s.locks, okLk s x = true) ∧ s.locks.Pairwise fun a b => clash a b = false := by
  rw [okLocks]
  exact upto_iff (p := fun x => okLk s x = true) (q := fun a b => clash a b = false) s.locks
theorem okItems_iff (l : List It) : okItems l l.length ↔ (∀ x ∈ l, okIt x = true) ∧ sortK l := by
  constructor
  · intro h
    refine ⟨fun x hx => ?_, sortK_ok h⟩
    obtain ⟨i, hi, rfl⟩ := List.getElem_of_mem hx
    simpa [List.getD, hi] using (h i hi).1
  · rintro ⟨h1, h2⟩ i hi
    refine ⟨?_, fun hp => ?_⟩
    · simpa [List.getD, hi] using h1 _ (List.getElem_mem hi)
    · have hi' : i - 1 < l.length := by omega
      simpa [List.getD, hi, hi'] using h2 (i - 1) i hi' hi (by omega)
theorem isTx_iff {u t : Tx} : isTx u.1 u.2 t = true ↔ u = t := by
  obtain ⟨a, b⟩ := u
  obtain ⟨c, d⟩ := t
  simp [isTx]
theorem okOver_iff (l : List Tx) : okOver l l.length ↔ (∀ x ∈ l, okTx x.1 x.2 = true) ∧ l.Pairwise fun a b => a ≠ b := by
  have e : okOver l l.length ↔ ∀ i, i < l.length → okTx (l.getD i tx0).1 (l.getD i tx0).2 = true ∧ ∀ k, k < i → l.getD k tx0 ≠ l.getD i tx0 := by
    refine forall_congr' fun i => forall_congr' fun hi => and_congr Iff.rfl ?_
    rw [List.any_eq_false]
    constructor
    · intro h k hk he
      have hk' : k < l.length := by omega
      have hm : l[k] ∈ l.take i := List.mem_take_iff_getElem.2 ⟨k, by omega, rfl⟩
      refine h _ hm (isTx_iff.2 ?_)
      simpa [List.getD, hk', hi] using he
    · intro h u hu hx
      obtain ⟨k, hk, rfl⟩ := List.mem_take_iff_getElem.1 hu
      have hk' : k < l.length := by omega
      refine h k (by omega) ?_
      have := isTx_iff.1 hx
      simpa [List.getD, hk', hi] using this
  rw [e]
  exact upto_iff (p := fun x : Tx => okTx x.1 x.2 = true) (q := fun a b => a ≠ b) l
theorem okS_iff (s : Sto) : okS s = true ↔ OkS s := by
  rw [okS, Bool.and_eq_true, Bool.and_eq_true, okItemsB_iff, okDoubtsB_iff, okLocksB_iff, okItems_iff, okDoubts_iff, okOver_iff, okLocks_iff]
  constructor
  · rintro ⟨⟨⟨h1, h2⟩, ⟨h3, h4⟩, h5, h6⟩, ⟨h7, h8⟩, h9⟩
    exact ⟨h1, h2, h3, h4, h5, h6, h7, h8, h9⟩
  · rintro ⟨h1, h2, h3, h4, h5, h6, h7, h8, h9⟩
    exact ⟨⟨⟨h1, h2⟩, ⟨h3, h4⟩, h5, h6⟩, ⟨h7, h8⟩, h9⟩
end Go.Proofs.YtghehknnaifoeaaDoor
