/-
  Purge computes what the plain function pur says. Conditions: those of its specification's 'pre'.
-/
import Derived.Test.YtgioabhamihfmaaGreatDoorTq1
set_option linter.unusedVariables false
set_option linter.unusedSimpArgs false
namespace Go.Proofs.YtgioabhamihfmaaGreatDoor
open Go Go.Vcg

/-! ### Plain functions -/
/-- What the label at place l does not see. -/
def hid (ls : List (Int × Int)) (l : Nat) (i : Int) : Bool := decide (0 ≤ i) && decide (i < ls.length) && !above (ls.getD l (0, 0)) (ls.getD i.toNat (0, 0))
def purKeep (ls : List (Int × Int)) (l : Nat) (ks : List Int) : List Int := ks.mapIdx fun i k => if hid ls l i = true then 0 else k
/-- The first j are done. -/
def purUpto (ls : List (Int × Int)) (l : Nat) (j : Nat) (ks : List Int) : List Int := ks.mapIdx fun i k => if i < j ∧ hid ls l i = true then 0 else k
def pur1 (ls : List (Int × Int)) (l : Nat) (a : Ac) : Option Ac :=
  if a.kind = 5 ∨ a.kind = 7 then some a else if a.kind = 6 then some { a with keep := purKeep ls l a.keep } else if hid ls l a.label = true then none else some a
def pur (ls : List (Int × Int)) (l : Nat) (ac : List Ac) : List Ac := ac.filterMap (pur1 ls l)
def purge (s : Int) (ls : List (Int × Int)) (p : Int) (l : Int) (ac : List Ac) : List Ac × Int :=
  if check s ls p ≠ 0 then ([], check s ls p) else if l < 0 ∨ ls.length ≤ l then ([], 6) else (pur ls l.toNat ac, 0)
def sp_Purge : Sp := { pre := fun ds => ∃ x l ac, ds = [x, .int .i64 l, actsD ac] ∧ isCfg x = true ∧ (∀ a ∈ ac, okAc a) ∧ ac.length ≤ 1000000, F := fun | [x, .int _ l, y] => .tup [actsD (purge (cfgOf x).1 (cfgOf x).2.1 (cfgOf x).2.2 l (actsOf y)).1, .int .i64 (purge (cfgOf x).1 (cfgOf x).2.1 (cfgOf x).2.2 l (actsOf y)).2] | _ => .any }

theorem purUpto_zero (ls : List (Int × Int)) (l : Nat) (ks : List Int) : purUpto ls l 0 ks = ks := by
  apply List.ext_getElem?
  intro i
  simp [purUpto, List.getElem?_mapIdx]
theorem purUpto_all (ls : List (Int × Int)) (l j : Nat) (ks : List Int) (h : ks.length ≤ j) : purUpto ls l j ks = purKeep ls l ks := by
  apply List.ext_getElem?
  intro i
  simp only [purUpto, purKeep, List.getElem?_mapIdx]
  by_cases hi : i < ks.length
  · rw [List.getElem?_eq_getElem hi]
    have : i < j := by omega
    simp [this]
  · rw [List.getElem?_eq_none (by omega)]; rfl
theorem purUpto_succ (ls : List (Int × Int)) (l j : Nat) (ks : List Int) (h : j < ks.length) : purUpto ls l (j + 1) ks = if hid ls l j = true then (purUpto ls l j ks).set j 0 else purUpto ls l j ks := by
  apply List.ext_getElem?
  intro i
  split
  · rename_i hh
    rw [List.getElem?_set]
    simp only [purUpto, List.getElem?_mapIdx, List.length_mapIdx]
    by_cases hij : j = i
    · subst hij
      rw [if_pos rfl, if_pos h, List.getElem?_eq_getElem h]
      simp [hh]
    · rw [if_neg hij]
      by_cases hi : i < ks.length
      · rw [List.getElem?_eq_getElem hi]
        have : i < j + 1 ↔ i < j := by omega
        simp [this]
      · rw [List.getElem?_eq_none (by omega)]; rfl
  · rename_i hh
    simp only [purUpto, List.getElem?_mapIdx]
    by_cases hi : i < ks.length
    · rw [List.getElem?_eq_getElem hi]
      by_cases hij : i = j
      · subst hij; simp [hh]
      · have : i < j + 1 ↔ i < j := by omega
        simp [this]
    · rw [List.getElem?_eq_none (by omega)]; rfl
theorem length_purUpto (ls : List (Int × Int)) (l j : Nat) (ks : List Int) : (purUpto ls l j ks).length = ks.length := by simp [purUpto]

section
variable {T : Tb}
end
end Go.Proofs.YtgioabhamihfmaaGreatDoor
