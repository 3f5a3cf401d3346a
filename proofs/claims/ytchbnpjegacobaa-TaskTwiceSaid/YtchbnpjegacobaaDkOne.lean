/-
  One transaction alone at a desk, its first call: a read of a label that is not dominated is refused, and who waits for a task is told so. Conditions: those that each theorem names.
-/
import Derived.Test.YtchbnpjegacobaaDkG
set_option linter.unusedVariables false
set_option linter.unusedSimpArgs false
namespace Go.Proofs.Ytchbnpjegacobaa
open Go Go.Vcg
variable {S l : Int}
theorem begun_dk (hS : 1 ≤ S ∧ S ≤ 4) (hl : 0 ≤ l ∧ l ≤ 1) : DkO (hd2 S l 0) (2, [oneJ []]) := by
  have h := dkO_keepC (okHd_2 hS hl (me := 0) (by omega)) (dkO_0 (hd2 S l 0)) 6000 ⟨1, 0, 0, 0, 0⟩
  rw [one_begin hS hl] at h
  exact h rfl
theorem up_refused (hS : 1 ≤ S ∧ S ≤ 4) {k : Int} (hk : 0 ≤ k ∧ k < 8) : callT (hd2 S 0 0) 2 [oneJ []] 6000 ⟨2, 1, 1, k, 0⟩ = (⟨2, 0, 0, [oneJ []], [], [], [rpC ⟨0, 2, 1, k, 0, 10⟩]⟩, 0) := by
  have hb := beg2 hS (l := 0) (me := 0) (by omega) (by omega) (begun_dk hS (l := 0) (by omega))
  have hr : refE (hd2 S 0 0) [oneJ []] ⟨2, 1, 1, k, 0⟩ = 10 := by
    unfold refE refP
    have hp : placeJ [oneJ []] 1 = (0 : Nat) := one_place _ rfl
    have e0 : ((0 : Nat) : Int).toNat = 0 := rfl
    have hj : jAt [oneJ []] 0 = oneJ [] := rfl
    rw [hp, if_neg (by decide), e0, hj]
    unfold refJ
    rw [if_pos (show (oneJ []).state = 1 from rfl), if_neg (one_waits fun t ht => by simp at ht), if_pos (Or.inl rfl), if_neg (by simp only [badR]; omega), if_pos]
    exact ⟨rfl, Or.inr (Or.inr rfl)⟩
  rw [callT_ok 6000 hb (by simp only; omega), callW, if_neg (by simp only; omega)]
  have hwj : (wdN 2 [oneJ []]).js = [oneJ []] := rfl
  rw [hwj, hr, if_neg (by omega)]
  rfl
/-- The job that waits for its first task. -/
def waitJ (t : Tk) : Jb := ⟨1, 1, [nextT [] t], [], 1, 0⟩
theorem first_call (hS : 1 ≤ S ∧ S ≤ 4) (hl : 0 ≤ l ∧ l ≤ 1) {x : Cl} (hk : x.kind = 2 ∨ x.kind = 3) (hn : x.n = 1) (hr : ¬ badR x) (hbl : ¬ badL (hd2 S l 0) x) :
    callT (hd2 S l 0) 2 [oneJ []] 6000 x = (⟨2, 0, 0, [waitJ (if x.kind = 2 then ⟨false, x.label, x.key, 0, 0, 0, false, false⟩ else ⟨true, l, x.key, x.value, 0, 0, false, false⟩)], [msgC (if x.kind = 2 then ⟨1, 0, x.key.tmod S, 0, 1, x.label, x.key, 0, 0, 1, false, 0⟩ else ⟨2, 0, x.key.tmod S, 0, 1, 0, x.key, x.value, 0, 1, false, 0⟩)], [], []⟩, 0) := by
  rw [one_call hS hl (begun_dk hS hl) (by simp) (by simp) hk hn hr hbl, tsk_one]
  rcases hk with hk | hk
  · simp only [if_pos hk]; rfl
  · have hk2 : ¬ x.kind = 2 := by omega
    simp only [if_neg hk2]; rfl
theorem wait_dk (hS : 1 ≤ S ∧ S ≤ 4) (hl : 0 ≤ l ∧ l ≤ 1) {x : Cl} (hk : x.kind = 2 ∨ x.kind = 3) (hn : x.n = 1) (hr : ¬ badR x) (hbl : ¬ badL (hd2 S l 0) x) :
    DkO (hd2 S l 0) (2, [waitJ (if x.kind = 2 then ⟨false, x.label, x.key, 0, 0, 0, false, false⟩ else ⟨true, l, x.key, x.value, 0, 0, false, false⟩)]) := by
  have h := dkO_keepC (okHd_2 hS hl (me := 0) (by omega)) (begun_dk hS hl) 6000 x
  simp only at h
  rw [first_call hS hl hk hn hr hbl] at h
  exact h rfl
theorem wait_refused (hS : 1 ≤ S ∧ S ≤ 4) (hl : 0 ≤ l ∧ l ≤ 1) {t : Tk} (hd : DkO (hd2 S l 0) (2, [waitJ t])) (ht : t.done = false) {x : Cl} (hk : 2 ≤ x.kind ∧ x.kind ≤ 5) (hn : x.n = 1) :
    callT (hd2 S l 0) 2 [waitJ t] 6000 x = (⟨2, 0, 0, [waitJ t], [], [], [rpC ⟨0, x.kind, 1, x.key, 0, 14⟩]⟩, 0) := by
  have hb := beg2 hS hl (me := 0) (by omega) hd
  have hr : refE (hd2 S l 0) [waitJ t] x = 14 := by
    unfold refE refP
    have hp : placeJ [waitJ t] 1 = (0 : Nat) := one_place _ rfl
    have e0 : ((0 : Nat) : Int).toNat = 0 := rfl
    have hj : jAt [waitJ t] 0 = waitJ t := rfl
    rw [hn, hp, if_neg (by decide), e0, hj]
    unfold refJ
    rw [if_pos (show (waitJ t).state = 1 from rfl), if_pos]
    exact ⟨by simp [waitJ], ht⟩
  rw [callT_ok 6000 hb (by omega), callW, if_neg (by omega)]
  have hwj : (wdN 2 [waitJ t]).js = [waitJ t] := rfl
  rw [hwj, hr, if_neg (by omega)]
  simp only [refW, wdN, hd2, List.nil_append, hn]
end Go.Proofs.Ytchbnpjegacobaa
