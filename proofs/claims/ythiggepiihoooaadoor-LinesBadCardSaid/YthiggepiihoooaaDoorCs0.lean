/-
  Words of a line: parting at a blank, decimal numbers that are read back. Plain lists, no program. Conditions: those that each theorem names.
-/
import Derived.Test.YthiggepiihoooaaDoorIr
import Derived.Lib.SplitLaws
import Derived.Lib.AtoiAll
import Derived.Lib.ItoaNum
set_option linter.unusedVariables false
set_option linter.unusedSimpArgs false
namespace Go.Proofs.YthiggepiihoooaaDoor
open Go Go.Vcg

theorem idx_eq (c : UInt8) (l : List UInt8) : Lib.index (c :: l) [c] = 0 := by simp [Lib.index, List.isPrefixOf]
theorem idx_ne {b c : UInt8} (h : b ≠ c) (l : List UInt8) : Lib.index (b :: l) [c] = if Lib.index l [c] = -1 then -1 else Lib.index l [c] + 1 := by
  have : ([c] : List UInt8).isPrefixOf (b :: l) = false := by simp [List.isPrefixOf]; exact fun e => h e.symm
  simp [Lib.index, this]
theorem split_eq (c : UInt8) (l : List UInt8) : Lib.split (c :: l) [c] = [] :: Lib.split l [c] := by
  unfold Lib.split
  rw [Lib.count_cons_eq, Nat.add_comm, Lib.splitK, idx_eq]
  simp
theorem split_ne {b c : UInt8} (h : b ≠ c) (l w : List UInt8) (ws : List (List UInt8)) (hs : Lib.split l [c] = w :: ws) : Lib.split (b :: l) [c] = (b :: w) :: ws := by
  unfold Lib.split at hs ⊢
  rw [Lib.count_cons_ne b c l h]
  cases hk : Lib.count l [c] with
  | zero => rw [hk] at hs; simp only [Lib.splitK, List.cons.injEq] at hs ⊢; obtain ⟨rfl, rfl⟩ := hs; simp
  | succ k =>
    rw [hk] at hs
    simp only [Lib.splitK] at hs ⊢
    rw [idx_ne h]
    by_cases hi : Lib.index l [c] = -1
    · simp only [hi, beq_self_eq_true, if_true, List.cons.injEq] at hs ⊢
      obtain ⟨rfl, rfl⟩ := hs; simp
    · have hge := Lib.index_ge l [c]
      have e1 : (Lib.index l [c] == -1) = false := by simpa using hi
      have e2 : (Lib.index l [c] + 1 == -1) = false := by simp; omega
      have e3 : (Lib.index l [c] + 1).toNat = (Lib.index l [c]).toNat + 1 := by omega
      simp only [if_neg hi, e1, e2, e3, Bool.false_eq_true, if_false, List.cons.injEq, Nat.add_zero] at hs ⊢
      obtain ⟨rfl, rfl⟩ := hs
      exact ⟨rfl, rfl⟩
theorem split_last {c : UInt8} : ∀ {w : List UInt8}, c ∉ w → Lib.split w [c] = [w]
  | [], _ => rfl
  | b :: w, h => split_ne (fun e => h (by simp [e])) w w [] (split_last fun hm => h (by simp [hm]))
theorem split_word {c : UInt8} : ∀ {w : List UInt8} (r : List UInt8), c ∉ w → Lib.split (w ++ c :: r) [c] = w :: Lib.split r [c]
  | [], r, _ => split_eq c r
  | b :: w, r, h => split_ne (fun e => h (by simp [e])) (w ++ c :: r) w _ (split_word r fun hm => h (by simp [hm]))

/-! ### Numbers -/
theorem dd_lt {u : Nat} (h : u < 10) : Lib.decDigits u = [UInt8.ofNat (48 + u)] := by rw [Lib.decDigits, dif_pos h]
theorem dd_ge {u : Nat} (h : ¬ u < 10) : Lib.decDigits u = Lib.decDigits (u / 10) ++ [UInt8.ofNat (48 + u % 10)] := by rw [Lib.decDigits, dif_neg h]
theorem dig_nat {d : Nat} (h : d < 10) : (UInt8.ofNat (48 + d)).toNat = 48 + d := by simp; omega
theorem dd_digit : ∀ (n u : Nat), u ≤ n → ∀ c ∈ Lib.decDigits u, 48 ≤ c.toNat ∧ c.toNat ≤ 57 := by
  intro n
  induction n with
  | zero => intro u hu c hc; rw [dd_lt (by omega)] at hc; simp only [List.mem_singleton] at hc; subst hc; rw [dig_nat (by omega)]; omega
  | succ n ih =>
    intro u hu c hc
    by_cases h : u < 10
    · rw [dd_lt h] at hc; simp only [List.mem_singleton] at hc; subst hc; rw [dig_nat h]; omega
    · rw [dd_ge h, List.mem_append] at hc
      rcases hc with hc | hc
      · exact ih (u / 10) (by omega) c hc
      · simp only [List.mem_singleton] at hc; subst hc; rw [dig_nat (by omega)]; omega
theorem dd_ne (u : Nat) : Lib.decDigits u ≠ [] := by
  by_cases h : u < 10
  · rw [dd_lt h]; simp
  · rw [dd_ge h]; simp
theorem pu_snoc : ∀ (l : List UInt8) (acc v : Nat), Lib.parseUint10 acc l = .ok v → ∀ d, d < 10 → v * 10 + d < 18446744073709551616 → Lib.parseUint10 acc (l ++ [UInt8.ofNat (48 + d)]) = .ok (v * 10 + d)
  | [], acc, v, h, d, hd, hb => by
    simp only [Lib.parseUint10, Lib.NumEnd.ok.injEq] at h
    subst h
    have e := dig_nat hd
    simp only [List.nil_append, Lib.parseUint10]
    rw [e, if_pos (by omega), if_neg (by omega), if_neg (by omega)]
    simp
  | c :: r, acc, v, h, d, hd, hb => by
    simp only [List.cons_append, Lib.parseUint10] at h ⊢
    split at h
    · rename_i h1
      rw [if_pos h1]
      split at h
      · cases h
      · rename_i h2
        rw [if_neg h2]
        split at h
        · cases h
        · rename_i h3
          rw [if_neg h3]
          exact pu_snoc r _ v h d hd hb
    · cases h
theorem pu_dd : ∀ (n u : Nat), u ≤ n → u < 18446744073709551616 → Lib.parseUint10 0 (Lib.decDigits u) = .ok u := by
  intro n
  induction n with
  | zero => intro u hu _; have : u = 0 := by omega
            subst this; rw [dd_lt (by omega)]; decide
  | succ n ih =>
    intro u hu hb
    by_cases h : u < 10
    · rw [dd_lt h]
      have := pu_snoc [] 0 0 rfl u h (by omega)
      simpa using this
    · rw [dd_ge h]
      have := pu_snoc _ 0 (u / 10) (ih (u / 10) (by omega) (by omega)) (u % 10) (by omega) (by omega)
      rw [this]
      congr 1
      omega
theorem atoi_dd {u : Nat} (hu : u ≤ 9223372036854775807) : Lib.atoiAll (Lib.decDigits u) = .ok (u : Int) := by
  have h1 := pu_dd u u (Nat.le_refl _) (by omega)
  have h2 := dd_digit u u (Nat.le_refl _)
  have h3 := dd_ne u
  cases hd : Lib.decDigits u with
  | nil => exact absurd hd h3
  | cons c r =>
    rw [hd] at h1 h2
    have hc := h2 c (by simp)
    unfold Lib.atoiAll
    have e1 : ¬ (c.toNat = 43 ∨ c.toNat = 45) := by omega
    have e2 : ¬ c.toNat = 45 := by omega
    have e3 : Lib.parseMag (c :: r) = .ok u := by unfold Lib.parseMag; rw [if_neg (by simp), h1]
    simp only [if_neg e1, e3, e2, not_false_eq_true, true_and, false_and, if_false]
    have e4 : ¬ 9223372036854775808 ≤ u := by omega
    have e5 : ¬ c.toNat = 43 := by omega
    simp [e4, e5, e3]
theorem itoa_nat (u : Nat) : Lib.itoa (u : Int) = Lib.decDigits u := by
  unfold Lib.itoa
  rw [if_neg (by omega)]
  simp
theorem dd_blank {u : Nat} : (32 : UInt8) ∉ Lib.decDigits u := fun h => by
  have := dd_digit u u (Nat.le_refl _) _ h
  revert this; decide
end Go.Proofs.YthiggepiihoooaaDoor
