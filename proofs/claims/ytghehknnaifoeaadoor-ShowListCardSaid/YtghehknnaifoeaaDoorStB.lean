/-
  The end of a transaction on a store, in plain words: endS. No conditions but those that each theorem names.
-/
import Derived.Test.YtghehknnaifoeaaDoorSt6
import Derived.Test.YtghehknnaifoeaaDoorSt9
import Derived.Test.YtghehknnaifoeaaDoorStA
set_option linter.unusedVariables false
set_option linter.unusedSimpArgs false
namespace Go.Proofs.YtghehknnaifoeaaDoor
open Go Go.Vcg

def putAt (l : List It) (i : Nat) (v : Int) : List It := l.set i ⟨(l.getD i it0).key, v, (l.getD i it0).version + 1⟩
def withK (l : List It) (k : Int) : List It := if hasK l k = true then l else insI l (posI l k) ⟨k, 0, 0⟩
def putIt (l : List It) (k v : Int) : List It := putAt (withK l k) (posI l k) v
def stepE (t : Tx) (yes : Bool) (l : List It) (x : Lk) : List It := if (isTx x.site x.n t && x.wr && yes) = true then putIt l x.key x.value else l
def endIts (t : Tx) (yes : Bool) (locks : List Lk) (its : List It) : List It := locks.foldl (stepE t yes) its
def overL (l : List Tx) (t : Tx) : List Tx := if (l.any fun u => isTx u.1 u.2 t) = true then l else l ++ [t]
noncomputable def endS (s : Sto) (t : Tx) (yes : Bool) : Sto × Int :=
  if callE s t 0 ≠ 0 then (s0, callE s t 0)
  else (⟨endIts t yes s.locks s.items, s.locks.filter (fun x => !isTx x.site x.n t), s.doubts.filter (fun x => !isTx x.site x.n t), overL s.over t⟩, 0)

theorem sortK_iff {l : List It} : sortK l ↔ (l.map It.key).Pairwise (· < ·) := by
  rw [List.pairwise_map, List.pairwise_iff_getElem]
  rfl
theorem insI_length {l : List It} {i : Nat} (x : It) (h : i ≤ l.length) : (insI l i x).length = l.length + 1 := by
  simp [insI]; omega
theorem insI_get {l : List It} {i : Nat} (x : It) (h : i ≤ l.length) : (insI l i x).getD i it0 = x := by
  have hl : (l.take i).length = i := by simp; omega
  rw [insI, List.append_assoc, List.getD, List.getElem?_append_right (by omega), hl, Nat.sub_self]
  rfl
theorem mem_insI {l : List It} {i : Nat} {x y : It} (h : y ∈ insI l i x) : y = x ∨ y ∈ l := by
  simp only [insI, List.append_assoc, List.mem_append, List.mem_singleton] at h
  rcases h with h | h | h
  · exact .inr (List.mem_of_mem_take h)
  · exact .inl h
  · exact .inr (List.mem_of_mem_drop h)
theorem sortK_ins {l : List It} (hs : sortK l) {k : Int} (hk : hasK l k = false) {x : It} (hx : x.key = k) : sortK (insI l (posI l k) x) := by
  obtain ⟨hp, h1, h2⟩ := posI_spec hs k
  have ha : ∀ y ∈ l.take (posI l k), y.key < k := by
    intro y hy
    obtain ⟨i, hi, rfl⟩ := List.getElem_of_mem hy
    rw [List.getElem_take]
    rw [List.length_take] at hi
    exact h1 i (by omega) (by omega)
  have hb : ∀ y ∈ l.drop (posI l k), k < y.key := by
    intro y hy
    have hne : y.key ≠ k := by
      intro he
      have := List.any_eq_false.1 hk y (List.mem_of_mem_drop hy)
      simp [he] at this
    obtain ⟨i, hi, rfl⟩ := List.getElem_of_mem hy
    rw [List.getElem_drop] at hne ⊢
    rw [List.length_drop] at hi
    have := h2 (posI l k + i) (by omega) (by omega)
    omega
  have hpw : l.Pairwise (fun a b => a.key < b.key) := List.pairwise_iff_getElem.2 hs
  have hall : (insI l (posI l k) x).Pairwise (fun a b => a.key < b.key) := by
    rw [insI, List.append_assoc, List.pairwise_append]
    refine ⟨hpw.sublist (List.take_sublist ..), ?_, ?_⟩
    · rw [List.singleton_append, List.pairwise_cons]
      exact ⟨fun y hy => by rw [hx]; exact hb y hy, hpw.sublist (List.drop_sublist ..)⟩
    · intro a ha' b hb'
      rw [List.singleton_append, List.mem_cons] at hb'
      rcases hb' with rfl | hb'
      · rw [hx]; exact ha a ha'
      · have := ha a ha'
        have := hb b hb'
        omega
  exact List.pairwise_iff_getElem.1 hall
theorem withK_spec {l : List It} (hs : sortK l) (k : Int) : sortK (withK l k) ∧ posI l k < (withK l k).length ∧ ((withK l k).getD (posI l k) it0).key = k ∧ (withK l k).length ≤ l.length + 1 ∧ l.length ≤ (withK l k).length := by
  obtain ⟨hp, _, _⟩ := posI_spec hs k
  cases hk : hasK l k
  · have e : withK l k = insI l (posI l k) ⟨k, 0, 0⟩ := by rw [withK, hk]; rfl
    rw [e, insI_length _ hp, insI_get _ hp]
    exact ⟨sortK_ins hs hk rfl, by omega, rfl, by omega, by omega⟩
  · have e : withK l k = l := by rw [withK, if_pos hk]
    obtain ⟨h1, h2⟩ := hasK_pos hs hk
    rw [e]
    exact ⟨hs, h1, by simpa [List.getD, h1] using h2, by omega, by omega⟩
theorem putAt_keys (l : List It) {i : Nat} (hi : i < l.length) (v : Int) : (putAt l i v).map It.key = l.map It.key := by
  rw [putAt, List.map_set]
  refine List.ext_getElem (by simp) fun n h1 h2 => ?_
  rw [List.getElem_set]
  split
  · subst i
    simp [List.getD, hi]
  · rfl
theorem length_putIt (l : List It) (k v : Int) : (putIt l k v).length = (withK l k).length := by simp [putIt, putAt]
theorem sortK_put {l : List It} (hs : sortK l) (k v : Int) : sortK (putIt l k v) := by
  obtain ⟨h1, h2, _⟩ := withK_spec hs k
  rw [sortK_iff, putIt, putAt_keys _ h2, ← sortK_iff]
  exact h1
/-- The versions are not too high. -/
def verLe (l : List It) (n : Int) : Prop := ∀ x ∈ l, 0 ≤ x.version ∧ x.version ≤ n
theorem verLe_with {l : List It} {n : Int} (hn : 0 ≤ n) (h : verLe l n) (k : Int) : verLe (withK l k) n := by
  intro x hx
  unfold withK at hx
  split at hx
  · exact h x hx
  · rcases mem_insI hx with rfl | hx
    · exact ⟨by simp only; omega, hn⟩
    · exact h x hx
theorem verLe_put {l : List It} {n : Int} (hn : 0 ≤ n) (h : verLe l n) (k v : Int) : verLe (putIt l k v) (n + 1) := by
  have hw := verLe_with hn h k
  intro x hx
  rw [putIt, putAt] at hx
  rcases List.mem_or_eq_of_mem_set hx with hx | rfl
  · have := hw x hx
    omega
  · simp only
    by_cases hi : posI l k < (withK l k).length
    · have := hw _ (List.getElem_mem hi)
      simp only [List.getD, List.getElem?_eq_getElem hi, Option.getD_some]
      omega
    · simp only [List.getD, List.getElem?_eq_none (Nat.le_of_not_lt hi), Option.getD_none, it0]
      omega
theorem step_spec {l : List It} (hs : sortK l) {n : Int} (hn : 0 ≤ n) (h : verLe l n) (t : Tx) (yes : Bool) (x : Lk) : sortK (stepE t yes l x) ∧ verLe (stepE t yes l x) (n + 1) ∧ (stepE t yes l x).length ≤ l.length + 1 := by
  unfold stepE
  split
  · refine ⟨sortK_put hs _ _, verLe_put hn h _ _, ?_⟩
    rw [length_putIt]
    exact (withK_spec hs _).2.2.2.1
  · exact ⟨hs, fun y hy => by have := h y hy; omega, by omega⟩
theorem endIts_succ (t : Tx) (yes : Bool) {locks : List Lk} {j : Nat} (hj : j < locks.length) (its : List It) : endIts t yes (locks.take (j + 1)) its = stepE t yes (endIts t yes (locks.take j) its) locks[j] := by
  rw [endIts, endIts, List.take_succ_eq_append_getElem hj, List.foldl_append]
  rfl
theorem endIts_spec {its : List It} (hs : sortK its) (h : verLe its 1048576) (t : Tx) (yes : Bool) (locks : List Lk) : ∀ j, j ≤ locks.length → sortK (endIts t yes (locks.take j) its) ∧ verLe (endIts t yes (locks.take j) its) (1048576 + j) ∧ (endIts t yes (locks.take j) its).length ≤ its.length + j
  | 0, _ => by simpa [endIts] using ⟨hs, h⟩
  | j + 1, hj => by
    obtain ⟨h1, h2, h3⟩ := endIts_spec hs h t yes locks j (by omega)
    obtain ⟨g1, g2, g3⟩ := step_spec h1 (by omega) h2 t yes locks[j]
    rw [endIts_succ t yes hj]
    refine ⟨g1, fun y hy => ?_, by omega⟩
    have := g2 y hy
    omega
theorem verLe_ok {l : List It} (h : okItems l l.length) : verLe l 1048576 := by
  intro x hx
  obtain ⟨i, hi, rfl⟩ := List.getElem_of_mem hx
  have := (h i hi).1
  simp only [okIt, Bool.and_eq_true, decide_eq_true_eq, List.getD, List.getElem?_eq_getElem hi, Option.getD_some] at this
  omega
noncomputable def sp_End : Sp := { pre := fun ds => ∃ (s : Sto) (t : Tx) (yes : Bool), ds = [stoD s, .agg (txC t), .bool yes] ∧ fewS' s, F := fun | [s, .agg t, .bool yes] => .tup [stoD (endS (stoOf s) (txOf t) yes).1, .int .i64 (endS (stoOf s) (txOf t) yes).2] | _ => .any }
end Go.Proofs.YtghehknnaifoeaaDoor
