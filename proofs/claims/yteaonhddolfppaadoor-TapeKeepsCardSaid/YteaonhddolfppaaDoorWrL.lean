/-
  What is read is what was written, with nothing behind it: plain laws. No program in sight; each theorem names its conditions.
-/
import Derived.Test.YteaonhddolfppaaDoorWrE
import Derived.Test.YteaonhddolfppaaDoorMsgC
set_option linter.unusedVariables false
set_option linter.unusedSimpArgs false
namespace Go.Proofs.YteaonhddolfppaaDoor
open Go Go.Vcg

theorem take_be (k : Nat) (n f : Int) (r : List Int) (h : fold256 0 (be k n) = n) : take k ⟨be k n ++ r, f⟩ = (n, ⟨r, f⟩) := by
  rw [take, if_neg (by simp [length_be]), List.take_left' (length_be k n), List.drop_left' (length_be k n), h]
theorem be1 (n : Int) : be 1 n = [n % 256] := by simp [be, byteAt]
theorem be3 (n : Int) : be 3 n = [n / 65536 % 256, n / 256 % 256, n % 256] := by
  simp [be, byteAt, List.range_succ]
theorem be4 (n : Int) : be 4 n = [n / 16777216 % 256, n / 65536 % 256, n / 256 % 256, n % 256] := by
  simp [be, byteAt, List.range_succ]
theorem fold_be1 {n : Int} (h0 : 0 ≤ n) (h1 : n < 256) : fold256 0 (be 1 n) = n := by
  rw [be1]; simp only [fold256]; omega
theorem fold_be3 {n : Int} (h0 : 0 ≤ n) (h1 : n < 16777216) : fold256 0 (be 3 n) = n := by
  rw [be3]; simp only [fold256]; omega
theorem fold_be4 {n : Int} (h0 : 0 ≤ n) (h1 : n < 4294967296) : fold256 0 (be 4 n) = n := by
  rw [be4]; simp only [fold256]; omega
theorem be1_fold {a : Int} (h0 : 0 ≤ a ∧ a < 256) : be 1 (fold256 0 [a]) = [a] := by
  rw [be1]; simp only [fold256]
  have e1 : (0 * 256 + a) % 256 = a := by omega
  rw [e1]
theorem be3_fold {a b c : Int} (h0 : 0 ≤ a ∧ a < 256) (h1 : 0 ≤ b ∧ b < 256) (h2 : 0 ≤ c ∧ c < 256) : be 3 (fold256 0 [a, b, c]) = [a, b, c] := by
  rw [be3]; simp only [fold256]
  have e1 : (((0 * 256 + a) * 256 + b) * 256 + c) / 65536 % 256 = a := by omega
  have e2 : (((0 * 256 + a) * 256 + b) * 256 + c) / 256 % 256 = b := by omega
  have e3 : (((0 * 256 + a) * 256 + b) * 256 + c) % 256 = c := by omega
  rw [e1, e2, e3]
theorem be4_fold {a b c d : Int} (h0 : 0 ≤ a ∧ a < 256) (h1 : 0 ≤ b ∧ b < 256) (h2 : 0 ≤ c ∧ c < 256) (h3 : 0 ≤ d ∧ d < 256) : be 4 (fold256 0 [a, b, c, d]) = [a, b, c, d] := by
  rw [be4]; simp only [fold256]
  have e0 : ((((0 * 256 + a) * 256 + b) * 256 + c) * 256 + d) / 16777216 % 256 = a := by omega
  have e1 : ((((0 * 256 + a) * 256 + b) * 256 + c) * 256 + d) / 65536 % 256 = b := by omega
  have e2 : ((((0 * 256 + a) * 256 + b) * 256 + c) * 256 + d) / 256 % 256 = c := by omega
  have e3 : ((((0 * 256 + a) * 256 + b) * 256 + c) * 256 + d) % 256 = d := by omega
  rw [e0, e1, e2, e3]

/-! ### Forth and back -/
theorem optT_be (b : Bool) (k : Nat) (v f : Int) (r : List Int) (h : fold256 0 (be k v) = v) (h0 : b = false → v = 0) : optT b k ⟨optE b (be k v) ++ r, f⟩ = (v, ⟨r, f⟩) := by
  cases b
  · simp [optT, optE, h0 rfl]
  · simp only [optT, optE, if_true]; exact take_be k v f r h
theorem rbit_be (y : Bool) (f : Int) (r : List Int) : rbit ⟨be 1 (bit01 y) ++ r, f⟩ = (y, ⟨r, f⟩) := by
  have h : fold256 0 (be 1 (bit01 y)) = bit01 y := fold_be1 (by cases y <;> simp [bit01]) (by cases y <;> simp [bit01])
  simp only [rbit, take_be 1 _ f r h]
  cases y <;> simp [bit01]
theorem optB_be (b y : Bool) (f : Int) (r : List Int) (h0 : b = false → y = false) : optB b ⟨optE b (be 1 (bit01 y)) ++ r, f⟩ = (y, ⟨r, f⟩) := by
  cases b
  · simp [optB, optE, h0 rfl]
  · simp only [optB, optE, if_true]; exact rbit_be y f r
theorem rkind_be (k m : Int) (r : List Int) (h1 : 1 ≤ k) (h2 : k ≤ m) (h3 : m ≤ 100) : rkind m ⟨be 1 k ++ r, 0⟩ = (k, ⟨r, 0⟩) := by
  have hn : ¬ (k < 1 ∨ k > m) := by omega
  simp only [rkind, take_be 1 k 0 r (fold_be1 (by omega) (by omega)), hn, false_and, if_false]
  simp
theorem takeT_be (a b f : Int) (r : List Int) (h1 : fold256 0 (be 1 a) = a) (h2 : fold256 0 (be 3 b) = b) : takeT ⟨be 1 a ++ (be 3 b ++ r), f⟩ = ((a, b), ⟨r, f⟩) := by
  simp only [takeT, take_be 1 a f _ h1, take_be 3 b f r h2]

/-- What a message that may be is like. -/
structure GoodM (S L : Int) (m : Ms) : Prop where
  kind : 1 ≤ m.kind ∧ m.kind ≤ 9
  frm : 0 ≤ m.frm ∧ m.frm < 256
  to : 0 ≤ m.to ∧ m.to < 256
  site : 0 ≤ m.site ∧ m.site < 256
  n : 0 ≤ m.n ∧ m.n < 16777216
  label : 0 ≤ m.label ∧ m.label < 256
  key : 0 ≤ m.key ∧ m.key < 256
  value : 0 ≤ m.value ∧ m.value < 4294967296
  version : 0 ≤ m.version ∧ m.version < 16777216
  ask : 0 ≤ m.ask ∧ m.ask < 16777216
  code : 0 ≤ m.code ∧ m.code < 256
  form : okForm m
theorem goodM {s p : Int} {ls : List (Int × Int)} {m : Ms} (h : chkM s ls p m = 0) (hs : s ≤ 4) (hl : ls.length ≤ 6) : GoodM s ls.length m := by
  obtain ⟨h0, h1, h2, hr, hf⟩ := chkM_zero h
  simp only [okRange, okTxn, okKey, okVal, okAsk, okCode, Bool.and_eq_true, decide_eq_true_eq, Bool.or_eq_true, beq_iff_eq] at hr
  exact ⟨by omega, by omega, by omega, by omega, by omega, by omega, by omega, by omega, by omega, by omega, by omega, hf⟩

theorem dec_enc {S L : Int} {m : Ms} (h : GoodM S L m) (t : List Int) : decM (encM m ++ t) = (m, rend ⟨t, 0⟩) := by
  obtain ⟨f1, f2, f3, f4, f5, f6, f7, f8⟩ := h.form
  have e : ∀ i, ptk m.kind i = pt m i := fun i => rfl
  simp only [decM, encM, List.append_assoc]
  rw [rkind_be _ _ _ h.kind.1 h.kind.2 (by decide)]
  simp only
  rw [take_be 1 m.frm 0 _ (fold_be1 h.frm.1 h.frm.2)]
  simp only
  rw [take_be 1 m.to 0 _ (fold_be1 h.to.1 h.to.2)]
  simp only
  rw [takeT_be m.site m.n 0 _ (fold_be1 h.site.1 h.site.2) (fold_be3 h.n.1 h.n.2)]
  simp only
  rw [optT_be _ 1 m.label 0 _ (fold_be1 h.label.1 h.label.2) (by rw [e]; exact f1)]
  simp only
  rw [optT_be _ 1 m.key 0 _ (fold_be1 h.key.1 h.key.2) (by rw [e]; exact f2)]
  simp only
  rw [optT_be _ 4 m.value 0 _ (fold_be4 h.value.1 h.value.2) (by rw [e]; exact f3)]
  simp only
  rw [optT_be _ 3 m.version 0 _ (fold_be3 h.version.1 h.version.2) (by rw [e]; exact f4)]
  simp only
  rw [optT_be _ 3 m.ask 0 _ (fold_be3 h.ask.1 h.ask.2) (by rw [e]; exact f5)]
  simp only
  rw [optB_be _ m.yes 0 _ (by rw [e]; exact f6)]
  simp only
  rw [optT_be _ 1 m.code 0 _ (fold_be1 h.code.1 h.code.2) (by rw [e]; exact f7)]

theorem dmsg_enc {s p : Int} {ls : List (Int × Int)} {m : Ms} (h : chkM s ls p m = 0) (hs : s ≤ 4) (hl : ls.length ≤ 6) : dmsg s ls p (encM m) = (m, 0) := by
  have hd := dec_enc (goodM h hs hl) []
  rw [List.append_nil] at hd
  have hr : rend ⟨[], 0⟩ = ⟨[], 0⟩ := by simp [rend]
  rw [hr] at hd
  have hc := (chkM_zero h).1
  simp [dmsg, hd, h, hc]
theorem dmsg_tail {s p : Int} {ls : List (Int × Int)} {m : Ms} (h : chkM s ls p m = 0) (hs : s ≤ 4) (hl : ls.length ≤ 6) (t : Int) : dmsg s ls p (encM m ++ [t]) = (ms0, 4) := by
  have hd := dec_enc (goodM h hs hl) [t]
  have hr : rend ⟨[t], 0⟩ = ⟨[t], 4⟩ := by simp [rend]
  rw [hr] at hd
  have hc := (chkM_zero h).1
  simp [dmsg, hd, hc]

/-! ### What is torn -/
/-- A part of rest is left, not all; or it has ended too early. -/
def Sh (r : Rs) (rest : List Int) : Prop := r = ⟨[], 5⟩ ∨ ∃ j, j < rest.length ∧ r = ⟨rest.take j, 0⟩
theorem take_end (k : Nat) (hk : 1 ≤ k) : take k ⟨[], 5⟩ = (0, ⟨[], 5⟩) := by
  rw [take, if_pos (by simp; omega)]; simp
theorem sh_take {k : Nat} (hk : 1 ≤ k) {v : Int} {r : Rs} {rest : List Int} (h : Sh r (be k v ++ rest)) : Sh (take k r).2 rest := by
  rcases h with rfl | ⟨j, hj, rfl⟩
  · rw [take_end k hk]; exact .inl rfl
  · have hl := length_be k v
    rw [List.length_append, hl] at hj
    by_cases hjk : j < k
    · left
      rw [take, if_pos (by simp [hl]; omega)]
      simp
    · right
      refine ⟨j - k, by omega, ?_⟩
      rw [take, if_neg (by simp [hl]; omega)]
      simp only
      rw [List.take_append, hl, List.take_of_length_le (by omega), List.drop_left' hl]
theorem sh_optT {b : Bool} {k : Nat} (hk : 1 ≤ k) {v : Int} {r : Rs} {rest : List Int} (h : Sh r (optE b (be k v) ++ rest)) : Sh (optT b k r).2 rest := by
  cases b
  · simpa [optT, optE] using h
  · simp only [optT, optE, if_true] at h ⊢; exact sh_take hk h
theorem sh_rbit {y : Bool} {r : Rs} {rest : List Int} (h : Sh r (be 1 (bit01 y) ++ rest)) : Sh (rbit r).2 rest := by
  have h1 := sh_take (Nat.le_refl 1) h
  simp only [rbit]
  split
  · rename_i hc
    exfalso
    rcases h with rfl | ⟨j, hj, rfl⟩
    · rw [take_end 1 (by decide)] at hc; simp at hc
    · rw [be1] at hc
      have hb : bit01 y % 256 = bit01 y := by cases y <;> simp [bit01]
      rw [hb] at hc
      cases j with
      | zero => simp [take] at hc
      | succ j =>
        simp [take, fold256] at hc
        cases y <;> simp [bit01] at hc
  · exact h1
theorem sh_optB {b y : Bool} {r : Rs} {rest : List Int} (h : Sh r (optE b (be 1 (bit01 y)) ++ rest)) : Sh (optB b r).2 rest := by
  cases b
  · simpa [optB, optE] using h
  · simp only [optB, optE, if_true] at h ⊢; exact sh_rbit h
theorem sh_takeT {a b : Int} {r : Rs} {rest : List Int} (h : Sh r (be 1 a ++ (be 3 b ++ rest))) : Sh (takeT r).2 rest := sh_take (by decide) (sh_take (by decide) h)
theorem sh_nil {r : Rs} (h : Sh r []) : r = ⟨[], 5⟩ := by
  rcases h with h | ⟨j, hj, _⟩
  · exact h
  · simp at hj

/-- From where there is nothing more. -/
theorem optT_end (b : Bool) (k : Nat) (hk : 1 ≤ k) : optT b k ⟨[], 5⟩ = (0, ⟨[], 5⟩) := by
  cases b
  · simp [optT]
  · simp only [optT, if_true]; exact take_end k hk
theorem rbit_end : rbit ⟨[], 5⟩ = (false, ⟨[], 5⟩) := by
  simp [rbit, take_end 1 (by decide)]
theorem optB_end (b : Bool) : optB b ⟨[], 5⟩ = (false, ⟨[], 5⟩) := by
  cases b
  · simp [optB]
  · simp only [optB, if_true]; exact rbit_end

theorem dec_nil : (decM []).2 = ⟨[], 5⟩ := by
  have h : rkind 9 ⟨[], 0⟩ = (0, ⟨[], 5⟩) := by simp [rkind, take]
  simp only [decM, h, take_end 1 (by decide), takeT, take_end 3 (by decide), optT_end _ 1 (by decide), optT_end _ 4 (by decide), optT_end _ 3 (by decide), optB_end]
  simp [rend]

theorem dec_torn {S L : Int} {m : Ms} (h : GoodM S L m) (j : Nat) (hj : j < (encM m).length) : (decM ((encM m).take j)).2 = ⟨[], 5⟩ := by
  cases j with
  | zero => rw [List.take_zero]; exact dec_nil
  | succ j =>
    obtain ⟨rest, hrest⟩ : ∃ rest, encM m = be 1 m.kind ++ rest := ⟨_, rfl⟩
    have hr2 : rest = be 1 m.frm ++ (be 1 m.to ++ (be 1 m.site ++ (be 3 m.n ++ (optE (ptk m.kind 0) (be 1 m.label) ++ (optE (ptk m.kind 1) (be 1 m.key) ++ (optE (ptk m.kind 2) (be 4 m.value) ++ (optE (ptk m.kind 3) (be 3 m.version) ++ (optE (ptk m.kind 4) (be 3 m.ask) ++ (optE (ptk m.kind 5) (be 1 (bit01 m.yes)) ++ (optE (ptk m.kind 6) (be 1 m.code) ++ [])))))))))) := by
      rw [encM] at hrest
      rw [List.append_nil]
      exact (List.append_cancel_left hrest).symm
    rw [hrest] at hj ⊢
    have hk1 : (be 1 m.kind ++ rest).take (j + 1) = be 1 m.kind ++ rest.take j := by
      rw [List.take_append, length_be, List.take_of_length_le (by rw [length_be]; omega)]
      simp
    have hjr : j < rest.length := by rw [List.length_append, length_be] at hj; omega
    rw [hk1]
    have s0 : Sh ⟨rest.take j, 0⟩ rest := .inr ⟨j, hjr, rfl⟩
    rw [hr2] at s0
    rw [← hr2] at s0
    simp only [decM, rkind_be _ _ _ h.kind.1 h.kind.2 (by decide)]
    have s0 : Sh ⟨rest.take j, 0⟩ rest := .inr ⟨j, hjr, rfl⟩
    generalize (⟨rest.take j, 0⟩ : Rs) = r0 at s0
    rw [hr2] at s0
    have s1 := sh_take (by decide) s0
    generalize take 1 r0 = q1 at s1
    obtain ⟨_, r1⟩ := q1
    have s2 := sh_take (by decide) s1
    simp only at s2 ⊢
    generalize take 1 r1 = q2 at s2
    obtain ⟨_, r2⟩ := q2
    have s3 := sh_takeT s2
    simp only at s3 ⊢
    generalize takeT r2 = q3 at s3
    obtain ⟨⟨_, _⟩, r3⟩ := q3
    have s4 := sh_optT (by decide) s3
    simp only at s4 ⊢
    generalize optT _ 1 r3 = q4 at s4
    obtain ⟨_, r4⟩ := q4
    have s5 := sh_optT (by decide) s4
    simp only at s5 ⊢
    generalize optT _ 1 r4 = q5 at s5
    obtain ⟨_, r5⟩ := q5
    have s6 := sh_optT (by decide) s5
    simp only at s6 ⊢
    generalize optT _ 4 r5 = q6 at s6
    obtain ⟨_, r6⟩ := q6
    have s7 := sh_optT (by decide) s6
    simp only at s7 ⊢
    generalize optT _ 3 r6 = q7 at s7
    obtain ⟨_, r7⟩ := q7
    have s8 := sh_optT (by decide) s7
    simp only at s8 ⊢
    generalize optT _ 3 r7 = q8 at s8
    obtain ⟨_, r8⟩ := q8
    have s9 := sh_optB s8
    simp only at s9 ⊢
    generalize optB _ r8 = q9 at s9
    obtain ⟨_, r9⟩ := q9
    have s10 := sh_optT (by decide) s9
    simp only at s10 ⊢
    generalize optT _ 1 r9 = q10 at s10
    obtain ⟨_, r10⟩ := q10
    have := sh_nil s10
    simp only at this ⊢
    rw [this]
    simp [rend]

theorem dmsg_torn {s p : Int} {ls : List (Int × Int)} {m : Ms} (h : chkM s ls p m = 0) (hs : s ≤ 4) (hl : ls.length ≤ 6) (j : Nat) (hj : j < (encM m).length) : dmsg s ls p ((encM m).take j) = (ms0, 5) := by
  have hd := dec_torn (goodM h hs hl) j hj
  have hc := (chkM_zero h).1
  simp [dmsg, hd, hc]
theorem dmsg_nil {s p : Int} {ls : List (Int × Int)} (hc : check s ls p = 0) : dmsg s ls p [] = (ms0, 5) := by
  simp [dmsg, dec_nil, hc]
theorem encM_pos (m : Ms) : 0 < (encM m).length := by
  simp only [encM, List.length_append, length_be]; omega
theorem encM_len (m : Ms) : (encM m).length ≤ 21 := by
  have key : ∀ (b : Bool) (l : List Int), (optE b l).length ≤ l.length := fun b l => by cases b <;> simp [optE]
  have k1 := key (ptk m.kind 0) (be 1 m.label)
  have k2 := key (ptk m.kind 1) (be 1 m.key)
  have k3 := key (ptk m.kind 2) (be 4 m.value)
  have k4 := key (ptk m.kind 3) (be 3 m.version)
  have k5 := key (ptk m.kind 4) (be 3 m.ask)
  have k6 := key (ptk m.kind 5) (be 1 (bit01 m.yes))
  have k7 := key (ptk m.kind 6) (be 1 m.code)
  simp only [length_be] at k1 k2 k3 k4 k5 k6 k7
  simp only [encM, List.length_append, length_be]; omega
end Go.Proofs.YteaonhddolfppaaDoor
