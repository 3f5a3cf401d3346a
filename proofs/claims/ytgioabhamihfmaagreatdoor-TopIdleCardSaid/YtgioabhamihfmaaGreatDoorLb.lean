/-
  The functions on labels compute what the plain functions beside them say. Conditions: those of each specification's 'pre'.
-/
import Derived.Test.YtgioabhamihfmaaGreatDoorPk
set_option linter.unusedVariables false
set_option linter.unusedSimpArgs false
namespace Go.Proofs.YtgioabhamihfmaaGreatDoor
open Go Go.Vcg

def above (a b : Int × Int) : Bool := decide (b.1 ≤ a.1) && (bitsI .and .i64 a.2 b.2 == b.2)
def sp_Above : Sp := { pre := fun ds => ∃ a b, ds = [lb a, lb b], F := fun | [x, y] => .bool (above (lbOf x) (lbOf y)) | _ => .any }
def sp_Join : Sp := { pre := fun ds => ∃ a b, ds = [lb a, lb b], F := fun | [x, y] => lb (max (lbOf x).1 (lbOf y).1, bitsI .or .i64 (lbOf x).2 (lbOf y).2) | _ => .any }
def sp_Meet : Sp := { pre := fun ds => ∃ a b, ds = [lb a, lb b], F := fun | [x, y] => lb (min (lbOf x).1 (lbOf y).1, bitsI .and .i64 (lbOf x).2 (lbOf y).2) | _ => .any }

theorem above_refl (a : Int) : above (lab a) (lab a) = true :=
  (by decide +kernel : ∀ p ∈ lcases, above p p = true) _ (lab_mem a)
theorem above_anti (a b : Int) (h : above (lab a) (lab b) = true) (g : above (lab b) (lab a) = true) : lab a = lab b :=
  (by decide +kernel : ∀ p ∈ lcases, ∀ q ∈ lcases, above p q = true → above q p = true → p = q) _ (lab_mem a) _ (lab_mem b) h g
theorem above_trans (a b c : Int) (h : above (lab a) (lab b) = true) (g : above (lab b) (lab c) = true) : above (lab a) (lab c) = true :=
  (by decide +kernel : ∀ p ∈ lcases, ∀ q ∈ lcases, ∀ r ∈ lcases, above p q = true → above q r = true → above p r = true) _ (lab_mem a) _ (lab_mem b) _ (lab_mem c) h g

def join (a b : Int × Int) : Int × Int := (max a.1 b.1, bitsI .or .i64 a.2 b.2)
def meet (a b : Int × Int) : Int × Int := (min a.1 b.1, bitsI .and .i64 a.2 b.2)
theorem join_least (a b c : Int) : above (join (lab a) (lab b)) (lab a) = true ∧ above (join (lab a) (lab b)) (lab b) = true ∧ above (lab c) (join (lab a) (lab b)) = (above (lab c) (lab a) && above (lab c) (lab b)) :=
  (by decide +kernel : ∀ p ∈ lcases, ∀ q ∈ lcases, ∀ r ∈ lcases, above (join p q) p = true ∧ above (join p q) q = true ∧ above r (join p q) = (above r p && above r q)) _ (lab_mem a) _ (lab_mem b) _ (lab_mem c)
theorem meet_most (a b c : Int) : above (lab a) (meet (lab a) (lab b)) = true ∧ above (lab b) (meet (lab a) (lab b)) = true ∧ above (meet (lab a) (lab b)) (lab c) = (above (lab a) (lab c) && above (lab b) (lab c)) :=
  (by decide +kernel : ∀ p ∈ lcases, ∀ q ∈ lcases, ∀ r ∈ lcases, above p (meet p q) = true ∧ above q (meet p q) = true ∧ above (meet p q) r = (above p r && above q r)) _ (lab_mem a) _ (lab_mem b) _ (lab_mem c)

section
variable {T : Tb}
end
end Go.Proofs.YtgioabhamihfmaaGreatDoor
