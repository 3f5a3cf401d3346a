/-
  Stores that come of raw numbers, in plain words: storeK. No conditions but those that each theorem names.
-/
import Derived.Test.YtghehknnaifoeaaDoorStC
import Derived.Test.YtghehknnaifoeaaDoorSt8h
set_option linter.unusedVariables false
set_option linter.unusedSimpArgs false
namespace Go.Proofs.YtghehknnaifoeaaDoor
open Go Go.Vcg

def kTx (r : Rw) : Tx := (pk r.a 2, 1 + pk r.b 2)
def kKey (r : Rw) : Int := pk r.c 5
noncomputable def kStep (s : Sto) (r : Rw) : Sto :=
  if pk r.k 5 = 0 ∨ pk r.k 5 = 1 then (if (readS s (kTx r) (kKey r)).2.2.2 = 0 then (readS s (kTx r) (kKey r)).1 else s)
  else if pk r.k 5 = 2 ∨ pk r.k 5 = 3 then (if (writeS s (kTx r) (kKey r) (pk r.d 100) (pk r.e 5)).2 = 0 then (writeS s (kTx r) (kKey r) (pk r.d 100) (pk r.e 5)).1 else s)
  else (if (endS s (kTx r) (decide (pk r.d 2 = 1))).2 = 0 then (endS s (kTx r) (decide (pk r.d 2 = 1))).1 else s)
noncomputable def kSteps (l : List Rw) : Sto := l.foldl kStep s0
noncomputable def storeK (l : List Rw) (most : Nat) : Sto := kSteps (l.take most)
/-- There is no more of anything than so many operations can bring. -/
def fewN (s : Sto) (n : Nat) : Prop := s.items.length ≤ 24 * n ∧ s.locks.length ≤ n ∧ s.doubts.length ≤ n ∧ s.over.length ≤ n
theorem length_handD (l : List Db) (t : Tx) : (handD l t).length ≤ l.length + 1 := by
  unfold handD
  split
  · omega
  · simp
theorem length_overL (l : List Tx) (t : Tx) : (overL l t).length ≤ l.length + 1 := by
  unfold overL
  split
  · omega
  · simp
theorem fewN_mono {s : Sto} {n m : Nat} (h : fewN s n) (hm : n ≤ m) : fewN s m := by
  obtain ⟨h1, h2, h3, h4⟩ := h
  exact ⟨by omega, by omega, by omega, by omega⟩
theorem fewN_s0 (n : Nat) : fewN s0 n := by simp [fewN, s0]
theorem fewN_read {s : Sto} {n : Nat} (h : fewN s n) (t : Tx) (k : Int) : fewN (readS s t k).1 (n + 1) := by
  have h' := fewN_mono h (Nat.le_succ n)
  unfold readS
  split
  · exact fewN_s0 _
  split
  · split
    · exact h'
    · exact h'
  split
  · exact fewN_s0 _
  split
  · exact fewN_s0 _
  split
  · exact fewN_s0 _
  · obtain ⟨h1, h2, h3, h4⟩ := h
    have := length_handD s.doubts t
    exact ⟨by simp only; omega, by simp; omega, by simp only; omega, by simp only; omega⟩
theorem length_putL (l : List Lk) (i : Int) (x : Lk) : (putL l i x).length ≤ l.length + 1 := by
  unfold putL
  split
  · simp
  · simp
theorem fewN_write {s : Sto} {n : Nat} (h : fewN s n) (t : Tx) (k v q : Int) : fewN (writeS s t k v q).1 (n + 1) := by
  unfold writeS
  split
  · exact fewN_s0 _
  split
  · exact fewN_s0 _
  split
  · exact fewN_s0 _
  split
  · exact fewN_s0 _
  split
  · exact fewN_s0 _
  · obtain ⟨h1, h2, h3, h4⟩ := h
    have := length_handD s.doubts t
    have := length_putL s.locks (lockI s t k) ⟨t.1, t.2, k, true, v, q⟩
    exact ⟨by simp only; omega, by simp only; omega, by simp only; omega, by simp only; omega⟩
theorem fewN_end {s : Sto} {n : Nat} (h : fewN s n) (t : Tx) (yes : Bool) : fewN (endS s t yes).1 (n + 1) := by
  unfold endS
  split
  · exact fewN_s0 _
  · rename_i hc
    have hc : callE s t 0 = 0 := by omega
    obtain ⟨hok, _⟩ := callE_zero hc
    have hl := (okS_parts hok).2.2.2
    have h5 := (endIts_spec (sortK_ok (okS_parts hok).1) (verLe_ok (okS_parts hok).1) t yes s.locks s.locks.length (Nat.le_refl _)).2.2
    rw [List.take_length] at h5
    obtain ⟨h1, h2, h3, h4⟩ := h
    have := length_overL s.over t
    have := List.length_filter_le (fun x : Lk => !isTx x.site x.n t) s.locks
    have := List.length_filter_le (fun x : Db => !isTx x.site x.n t) s.doubts
    exact ⟨by simp only; omega, by simp only; omega, by simp only; omega, by simp only; omega⟩
theorem fewN_step {s : Sto} {n : Nat} (h : fewN s n) (r : Rw) : fewN (kStep s r) (n + 1) := by
  have h' := fewN_mono h (Nat.le_succ n)
  unfold kStep
  split
  · split
    · exact fewN_read h _ _
    · exact h'
  split
  · split
    · exact fewN_write h _ _ _ _
    · exact h'
  · split
    · exact fewN_end h _ _
    · exact h'
theorem kSteps_succ {l : List Rw} {j : Nat} (hj : j < l.length) : kSteps (l.take (j + 1)) = kStep (kSteps (l.take j)) l[j] := by
  rw [kSteps, List.take_succ_eq_append_getElem hj, List.foldl_append]
  rfl
theorem fewN_steps (l : List Rw) : ∀ j, j ≤ l.length → fewN (kSteps (l.take j)) j
  | 0, _ => by simpa [kSteps] using fewN_s0 0
  | j + 1, hj => by
    rw [kSteps_succ hj]
    exact fewN_step (fewN_steps l j (by omega)) _
theorem fewN_fewS' {s : Sto} {n : Nat} (h : fewN s n) (hn : n ≤ 100) : fewS' s := by
  obtain ⟨h1, h2, h3, h4⟩ := h
  exact ⟨by omega, by omega, by omega, by omega⟩
theorem read_F (s : Sto) (t : Tx) (k : Int) : sp_Read.F [.agg (stoC s), .agg (txC t), .int .i64 k] = .tup [.agg (stoC (readS s t k).1), .int .i64 (readS s t k).2.1, .int .i64 (readS s t k).2.2.1, .int .i64 (readS s t k).2.2.2] := by
  have e : D.agg (stoC s) = stoD s := rfl
  simp only [sp_Read, e, stoOf_stoD, txOf_txC]
  rfl
theorem read_pre {s : Sto} (h : fewS' s) (t : Tx) (k : Int) : sp_Read.pre [.agg (stoC s), .agg (txC t), .int .i64 k] = True := by
  simp only [sp_Read, eq_iff_iff, iff_true]; exact ⟨s, t, k, rfl, h⟩
theorem end_F (s : Sto) (t : Tx) (yes : Bool) : sp_End.F [.agg (stoC s), .agg (txC t), .bool yes] = .tup [.agg (stoC (endS s t yes).1), .int .i64 (endS s t yes).2] := by
  have e : D.agg (stoC s) = stoD s := rfl
  simp only [sp_End, e, stoOf_stoD, txOf_txC]
  rfl
theorem end_pre {s : Sto} (h : fewS' s) (t : Tx) (yes : Bool) : sp_End.pre [.agg (stoC s), .agg (txC t), .bool yes] = True := by
  simp only [sp_End, eq_iff_iff, iff_true]; exact ⟨s, t, yes, rfl, h⟩
noncomputable def sp_Store : Sp := { pre := fun ds => ∃ (l : List Rw) (m : Nat), ds = [rawsD l, .int .i64 m] ∧ okRaws l ∧ m ≤ 100, F := fun | [x, .int _ m] => stoD (storeK (rawsOf x) m.toNat) | _ => .any }
end Go.Proofs.YtghehknnaifoeaaDoor
