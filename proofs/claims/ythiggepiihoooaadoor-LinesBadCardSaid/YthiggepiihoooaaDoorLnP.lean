/-
  Acts as lines: what is written. Plain lists, no program. Conditions: those that each theorem names.
-/
import Derived.Test.YthiggepiihoooaaDoorCs0
import Derived.Test.YthiggepiihoooaaDoorAct9
set_option linter.unusedVariables false
set_option linter.unusedSimpArgs false
namespace Go.Proofs.YthiggepiihoooaaDoor
open Go Go.Vcg

def wordsL : List (List UInt8) := [[], [97, 115, 107], [100, 101, 108, 105, 118, 101, 114], [100, 114, 111, 112], [99, 111, 112, 121], [116, 105, 99, 107], [99, 114, 97, 115, 104], [115, 116, 97, 114, 116], [116, 121, 112, 101]]
def callsL : List (List UInt8) := [[], [98, 101, 103, 105, 110], [103, 101, 116], [112, 117, 116], [99, 111, 109, 109, 105, 116], [114, 111, 108, 108, 98, 97, 99, 107]]
def wordK (k : Int) : List UInt8 := wordsL.getD k.toNat []
def callK (k : Int) : List UInt8 := callsL.getD k.toNat []
/-- Numbers, each behind a blank. -/
def numsS (l : List Int) : List UInt8 := l.flatMap fun n => 32 :: Lib.itoa n
def valsOf (a : Ac) : List Int :=
  if a.kind = 2 ∨ a.kind = 3 ∨ a.kind = 4 then [a.site, a.to, a.label, a.pick] else if a.kind = 5 then [] else if a.kind = 6 then a.site :: a.keep else if a.kind = 7 then [a.site] else [a.site, a.label]
def callVals (x : Cl5) : List Int := if x.kind = 2 then [x.n, x.label, x.key] else if x.kind = 3 then [x.n, x.key, x.value] else if x.kind = 4 ∨ x.kind = 5 then [x.n] else []
def askedOf (x : Cl5) : List UInt8 := 32 :: (callK x.kind ++ numsS (callVals x))
def digitsL : List UInt8 := [48, 49, 50, 51, 52, 53, 54, 55, 56, 57, 97, 98, 99, 100, 101, 102]
def hexB (b : UInt8) : List UInt8 := [digitsL.getD (b.toNat / 16) 0, digitsL.getD (b.toNat % 16) 0]
def hexOf (s : List UInt8) : List UInt8 := 46 :: s.flatMap hexB
def tailOf (a : Ac) : List UInt8 := if a.kind = 1 then askedOf a.call else if a.kind = 8 then 32 :: hexOf a.line else []
def lineOf (a : Ac) : List UInt8 := wordK a.kind ++ (numsS (valsOf a) ++ (tailOf a ++ [10]))
def linesOf (l : List Ac) : List UInt8 := l.flatMap lineOf
theorem linesOf_app (a b : List Ac) : linesOf (a ++ b) = linesOf a ++ linesOf b := by simp [linesOf]
theorem numsS_snoc (l : List Int) (n : Int) : numsS (l ++ [n]) = numsS l ++ 32 :: Lib.itoa n := by simp [numsS]
theorem itoa_len {n : Int} (h0 : 0 ≤ n) (h1 : n < 10000000000) : (Lib.itoa n).length ≤ 10 := by
  obtain ⟨u, rfl⟩ : ∃ u : Nat, n = u := ⟨n.toNat, by omega⟩
  rw [itoa_nat]
  have hk : ∀ (k u : Nat), u < 10 ^ (k + 1) → (Lib.decDigits u).length ≤ k + 1 := by
    intro k
    induction k with
    | zero => intro u h; rw [dd_lt (by simpa using h)]; simp
    | succ k ih =>
      intro u h
      by_cases h1 : u < 10
      · rw [dd_lt h1]; simp
      · rw [dd_ge h1]
        have := ih (u / 10) (by rw [Nat.div_lt_iff_lt_mul (by omega)]; rw [Nat.pow_succ] at h; exact h)
        simp only [List.length_append, List.length_cons, List.length_nil]; omega
  exact hk 9 u (by omega)
theorem numsS_len : ∀ {l : List Int}, (∀ n ∈ l, 0 ≤ n ∧ n < 10000000000) → (numsS l).length ≤ 11 * l.length
  | [], _ => by simp [numsS]
  | n :: l, h => by
    have h1 := itoa_len (h n (by simp)).1 (h n (by simp)).2
    have h2 := numsS_len (l := l) fun x hx => h x (by simp [hx])
    simp only [numsS, List.flatMap_cons, List.length_append, List.length_cons] at h2 ⊢
    omega
theorem hexOf_len (s : List UInt8) : (hexOf s).length = 2 * s.length + 1 := by
  unfold hexOf
  rw [List.length_cons]
  congr 1
  induction s with
  | nil => rfl
  | cons b s ih => simp only [List.flatMap_cons, List.length_append, ih, List.length_cons]; simp [hexB]; omega
end Go.Proofs.YthiggepiihoooaaDoor
