/-
  One job in the midst of others. No conditions but those that each theorem names.
-/
import Derived.Test.YtchbnpjegacobaaDoorDkD
set_option linter.unusedVariables false
set_option linter.unusedSimpArgs false
namespace Go.Proofs.YtchbnpjegacobaaDoor
open Go Go.Vcg

theorem set_mid {α : Type} (A R : List α) (x y : α) : (A ++ x :: R).set A.length y = A ++ y :: R := by
  rw [List.set_append_right _ _ (Nat.le_refl _), Nat.sub_self]; rfl
theorem del_mid {α : Type} (A R : List α) (x : α) : delE (A ++ x :: R) A.length = A ++ R := by
  simp only [delE]
  rw [List.take_left' rfl]
  congr 1
  have : A ++ x :: R = (A ++ [x]) ++ R := by simp
  rw [this, List.drop_left' (by simp)]
theorem place_mid {A R : List Jb} {x : Jb} (h : ∀ y ∈ A, y.n ≠ x.n) : placeJ (A ++ x :: R) x.n = (A.length : Nat) := by
  refine idxOf_found (g := fun y : Jb => decide (y.n = x.n)) (by simp) ?_ fun i hi => ?_
  · simp
  · have : (A ++ x :: R)[i]'(by simp; omega) = A[i] := List.getElem_append_left hi
    rw [this]
    simpa using h _ (List.getElem_mem hi)
theorem jAt_mid (A R : List Jb) (x : Jb) : jAt (A ++ x :: R) A.length = x := by
  rw [jAt_eq (by simp)]; simp
end Go.Proofs.YtchbnpjegacobaaDoor
