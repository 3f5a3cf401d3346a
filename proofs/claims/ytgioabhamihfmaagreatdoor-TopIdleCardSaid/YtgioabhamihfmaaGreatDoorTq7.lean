/-
  Acts that have what their kinds have: plain laws. No program in sight; each theorem names its conditions.
-/
import Derived.Test.YtgioabhamihfmaaGreatDoorTq3
set_option linter.unusedVariables false
set_option linter.unusedSimpArgs false
namespace Go.Proofs.YtgioabhamihfmaaGreatDoor
open Go Go.Vcg

def rngC (x : Cl5) : Prop := 0 ≤ x.n ∧ x.n ≤ 1048576 ∧ 0 ≤ x.label ∧ x.label < 6 ∧ 0 ≤ x.key ∧ x.key ≤ 8 ∧ 0 ≤ x.value ∧ x.value ≤ 1073741824
def frmC (x : Cl5) : Prop := (x.kind = 1 → x.n = 0) ∧ (¬ x.kind = 2 → x.label = 0) ∧ (¬ x.kind = 2 → ¬ x.kind = 3 → x.key = 0) ∧ (¬ x.kind = 3 → x.value = 0)
instance (x : Cl5) : Decidable (rngC x) := inferInstanceAs (Decidable (_ ∧ _))
instance (x : Cl5) : Decidable (frmC x) := inferInstanceAs (Decidable (_ ∧ _))
def callB (x : Cl5) : Int := if x.kind < 1 ∨ 5 < x.kind then 3 else if ¬ rngC x then 2 else if ¬ frmC x then 4 else 0
def okKeep (ks : List Int) : Bool := ks.all fun n => decide (0 ≤ n) && decide (n ≤ 6000)
def numB (S : Int) (L : Nat) (a : Ac) : Prop := 0 ≤ a.site ∧ a.site < S ∧ 0 ≤ a.to ∧ a.to < S ∧ 0 ≤ a.label ∧ a.label < L ∧ 0 ≤ a.pick ∧ a.pick ≤ 1048576 ∧ a.keep.length ≤ L ∧ a.line.length ≤ 60 ∧ okKeep a.keep = true
instance (S : Int) (L : Nat) (a : Ac) : Decidable (numB S L a) := inferInstanceAs (Decidable (_ ∧ _))
def pathK (k : Int) : Bool := decide (k = 2) || decide (k = 3) || decide (k = 4)
def zeroC (x : Cl5) : Prop := x.kind = 0 ∧ x.n = 0 ∧ x.label = 0 ∧ x.key = 0 ∧ x.value = 0
instance (x : Cl5) : Decidable (zeroC x) := inferInstanceAs (Decidable (_ ∧ _))
def bareB (a : Ac) : Prop := ((pathK a.kind = true ∨ ¬ a.kind = 5) ∨ a.site = 0) ∧ ((pathK a.kind = true ∨ a.kind = 1 ∨ a.kind = 8) ∨ a.label = 0) ∧ (pathK a.kind = true ∨ (a.to = 0 ∧ a.pick = 0)) ∧ (a.kind = 6 ∨ a.keep.length = 0) ∧ (a.kind = 1 ∨ zeroC a.call) ∧ (a.kind = 8 ∨ a.line = [])
instance (a : Ac) : Decidable (bareB a) := inferInstanceAs (Decidable (_ ∧ _))
/-- Is it an act? -/
def actE (S : Int) (L : Nat) (a : Ac) : Int := if a.kind < 1 ∨ 8 < a.kind then 3 else if ¬ numB S L a then 2 else if ¬ bareB a then 4 else if a.kind = 1 then callB a.call else 0

theorem mkAsk_ok (k a b c d : Int) : callB (mkAsk k a b c d) = 0 := by
  have b1 := pk_bounds k 5 (by decide)
  have b2 := pk_bounds a 4 (by decide)
  have b3 := pk_bounds b 3 (by decide)
  have b4 := pk_bounds c 4 (by decide)
  have b5 := pk_bounds d 99 (by decide)
  have hk : (mkAsk k a b c d).kind = 1 + pk k 5 := rfl
  rw [callB, if_neg (by rw [hk]; omega), if_neg, if_neg]
  · intro h
    apply h
    simp only [frmC, mkAsk]
    refine ⟨fun h => by rw [if_pos h], fun h => by rw [if_neg h], fun h1 h2 => by rw [if_neg (by omega)], fun h => by rw [if_neg h]⟩
  · intro h
    apply h
    simp only [rngC, mkAsk]
    refine ⟨?_, ?_, ?_, ?_, ?_, ?_, ?_, ?_⟩ <;> split <;> omega
theorem dig_len (n : Int) : (dig n).length = 1 := rfl
theorem typedL_len (f : Bool) (r : Rw) : (typedL f r).length ≤ 60 := by
  have ht : (txn3 r).length = 5 := by simp [txn3, dig]
  have hw : ∀ i, (wordAt i).length ≤ 6 := fun i => by unfold wordAt; split <;> simp
  have hx : ∀ i, (textAt i).length ≤ 13 := fun i => by
    unfold textAt
    repeat' split
    all_goals simp
  have hw' := hw (pk r.e 2)
  have hx' := hx (pk r.e 6)
  unfold typedL
  repeat' split
  all_goals first | (simp only [List.length_append, List.length_cons, List.length_nil]; omega) | omega
theorem crashKeep_ok (L : Nat) (d : Int) : okKeep (crashKeep L d) = true := by
  refine List.all_eq_true.2 fun n hn => ?_
  simp only [crashKeep, List.mem_map] at hn
  obtain ⟨i, _, rfl⟩ := hn
  have := pk_bounds (d.tdiv ((i : Int) + 1)) 40 (by decide)
  simp only [Bool.and_eq_true, decide_eq_true_eq]
  omega
theorem actE_ok {S : Int} {L : Nat} {a : Ac} (h1 : 1 ≤ a.kind ∧ a.kind ≤ 8) (h2 : numB S L a) (h3 : bareB a) (h4 : a.kind = 1 → callB a.call = 0) : actE S L a = 0 := by
  rw [actE, if_neg (by omega), if_neg (by simpa using h2), if_neg (by simpa using h3)]
  split
  · exact h4 ‹_›
  · rfl
theorem mkAct_good (f : Bool) (S : Int) (L : Nat) (r : Rw) (hS : 1 ≤ S) (hL : 1 ≤ L) : actE S L (mkAct f S L r) = 0 := by
  have a1 := pk_bounds (r.a.tdiv 31) S (by omega)
  have a2 := pk_bounds (r.b.tdiv 31) L (by omega)
  have a3 := pk_bounds r.c S (by omega)
  have a4 := pk_bounds r.d 3 (by decide)
  have a5 := pk_bounds r.e 2 (by decide)
  have hck : (crashKeep L r.d).length = L := by simp [crashKeep]
  have hk0 : okKeep [] = true := rfl
  have ht := typedL_len f r
  have hz : zeroC c0 := ⟨rfl, rfl, rfl, rfl, rfl⟩
  unfold mkAct
  split
  · exact actE_ok (by simp only; omega) ⟨by simp only; omega, by simp only; omega, by simp only; omega, by simp only; omega, by simp only; omega, by simp only; omega, by simp only; omega, by simp only; omega, by simp, by simp, hk0⟩ ⟨.inl (.inr (by simp only; omega)), .inl (.inr (.inl rfl)), .inr ⟨rfl, rfl⟩, .inr rfl, .inl rfl, .inr rfl⟩ fun _ => mkAsk_ok _ _ _ _ _
  · split
    · exact actE_ok (by simp only; omega) ⟨by simp only; omega, by simp only; omega, by simp only; omega, by simp only; omega, by simp only; omega, by simp only; omega, by simp only; omega, by simp only; omega, by simp, by simp, hk0⟩ ⟨.inl (.inl rfl), .inl (.inl rfl), .inl rfl, .inr rfl, .inr hz, .inr rfl⟩ fun h => by simp only at h; omega
    · split
      · have hp : pathK (4 - pk r.e 2) = true := by
          have : pk r.e 2 = 0 ∨ pk r.e 2 = 1 := by omega
          rcases this with h | h <;> rw [h] <;> rfl
        exact actE_ok (by simp only; omega) ⟨by simp only; omega, by simp only; omega, by simp only; omega, by simp only; omega, by simp only; omega, by simp only; omega, by simp only; omega, by simp only; omega, by simp, by simp, hk0⟩ ⟨.inl (.inl hp), .inl (.inl hp), .inl hp, .inr rfl, .inr hz, .inr rfl⟩ fun h => by simp only at h; omega
      · split
        · exact actE_ok (by simp only; omega) ⟨by simp only; omega, by simp only; omega, by simp only; omega, by simp only; omega, by simp only; omega, by simp only; omega, by simp only; omega, by simp only; omega, by simp, by simp, hk0⟩ ⟨.inr rfl, .inr rfl, .inr ⟨rfl, rfl⟩, .inr rfl, .inr hz, .inr rfl⟩ fun h => by simp only at h; omega
        · split
          · exact actE_ok (by simp only; omega) ⟨by simp only; omega, by simp only; omega, by simp only; omega, by simp only; omega, by simp only; omega, by simp only; omega, by simp only; omega, by simp only; omega, by simp only; omega, by simp, crashKeep_ok L r.d⟩ ⟨.inl (.inr (by simp only; omega)), .inr rfl, .inr ⟨rfl, rfl⟩, .inl rfl, .inr hz, .inr rfl⟩ fun h => by simp only at h; omega
          · split
            · exact actE_ok (by simp only; omega) ⟨by simp only; omega, by simp only; omega, by simp only; omega, by simp only; omega, by simp only; omega, by simp only; omega, by simp only; omega, by simp only; omega, by simp, by simp, hk0⟩ ⟨.inl (.inr (by simp only; omega)), .inr rfl, .inr ⟨rfl, rfl⟩, .inr rfl, .inr hz, .inr rfl⟩ fun h => by simp only at h; omega
            · exact actE_ok (by simp only; omega) ⟨by simp only; omega, by simp only; omega, by simp only; omega, by simp only; omega, by simp only; omega, by simp only; omega, by simp only; omega, by simp only; omega, by simp, by simp only; omega, hk0⟩ ⟨.inl (.inr (by simp only; omega)), .inl (.inr (.inr rfl)), .inr ⟨rfl, rfl⟩, .inr rfl, .inr hz, .inl rfl⟩ fun h => by simp only at h; omega
theorem more_good (S : Int) (L : Nat) (a : Ac) (e : Int) (hS : 1 ≤ S) (h : actE S L a = 0) : ∀ x ∈ more S a e, actE S L x = 0 := by
  intro x hx
  unfold more at hx
  split at hx
  · rename_i hc
    have hn : numB S L a := by
      unfold actE at h
      split at h
      · cases h
      · split at h
        · cases h
        · rename_i hh; exact Decidable.not_not.1 hh
    have hcall : callB a.call = 0 := by
      unfold actE at h
      repeat' split at h
      all_goals first | (cases h; done) | exact h | (exfalso; rename_i hh; exact hh hc.1)
    have hkey : 0 ≤ a.call.key := by
      unfold callB at hcall
      repeat' split at hcall
      all_goals first | (cases hcall; done) | skip
      rename_i hr _
      have := Decidable.not_not.1 hr
      exact this.2.2.2.2.1
    obtain ⟨n1, n2, n3, n4, n5, n6, n7, n8, n9, n10, n11⟩ := hn
    have t1 : 0 ≤ a.call.key.tmod S := Int.tmod_nonneg _ hkey
    have t2 : a.call.key.tmod S < S := Int.tmod_lt_of_pos _ (by omega)
    have hk0 : okKeep [] = true := rfl
    have hz : zeroC c0 := ⟨rfl, rfl, rfl, rfl, rfl⟩
    simp only [List.mem_cons, List.mem_nil_iff, or_false] at hx
    rcases hx with rfl | rfl
    · exact actE_ok (by simp only; omega) ⟨by simp only; omega, by simp only; omega, by simp only; omega, by simp only; omega, by simp only; omega, by simp only; omega, by simp only; omega, by simp only; omega, by simp, by simp, hk0⟩ ⟨.inl (.inl rfl), .inl (.inl rfl), .inl rfl, .inr rfl, .inr hz, .inr rfl⟩ fun h => by simp only at h; omega
    · exact actE_ok (by simp only; omega) ⟨by simp only; omega, by simp only; omega, by simp only; omega, by simp only; omega, by simp only; omega, by simp only; omega, by simp only; omega, by simp only; omega, by simp, by simp, hk0⟩ ⟨.inl (.inl rfl), .inl (.inl rfl), .inl rfl, .inr rfl, .inr hz, .inr rfl⟩ fun h => by simp only at h; omega
  · simp at hx
theorem actsL_good (f : Bool) (S : Int) (L : Nat) (most : Int) (hS : 1 ≤ S) (hL : 1 ≤ L) : ∀ (rs : List Rw) (out : List Ac), (∀ x ∈ out, actE S L x = 0) → ∀ x ∈ actsL f S L most rs out, actE S L x = 0
  | [], out, h => by simpa [actsL] using h
  | r :: rs, out, h => by
    rw [actsL]
    split
    · refine actsL_good f S L most hS hL rs _ fun x hx => ?_
      rcases List.mem_append.1 hx with hx | hx
      · rcases List.mem_append.1 hx with hx | hx
        · exact h x hx
        · simp at hx; subst hx; exact mkAct_good f S L r hS hL
      · exact more_good S L _ r.e hS (mkAct_good f S L r hS hL) x hx
    · exact h
end Go.Proofs.YtgioabhamihfmaaGreatDoor
