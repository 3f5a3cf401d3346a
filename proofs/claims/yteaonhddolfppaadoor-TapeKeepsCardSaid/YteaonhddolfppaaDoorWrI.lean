/-
  What was read, written again, is what was there: plain laws. No program in sight; each theorem names its conditions.
-/
import Derived.Test.YteaonhddolfppaaDoorWrL
set_option linter.unusedVariables false
set_option linter.unusedSimpArgs false
namespace Go.Proofs.YteaonhddolfppaaDoor
open Go Go.Vcg

/-! ### Back and forth -/
theorem take_inv {k : Nat} (hk : k = 1 ∨ k = 3 ∨ k = 4) {r r' : Rs} {n : Int} (hb : okBytes r.bs) (h : take k r = (n, r')) (hf : r'.f = 0) : r.f = 0 ∧ r.bs = be k n ++ r'.bs ∧ okBytes r'.bs := by
  obtain ⟨bs, f⟩ := r
  simp only at hb
  by_cases hl : bs.length < k
  · rw [take, if_pos hl] at h
    simp only [Prod.mk.injEq] at h
    obtain ⟨_, rfl⟩ := h
    simp only at hf
    split at hf
    · cases hf
    · rename_i hn; exact absurd hf hn
  · rw [take, if_neg hl] at h
    simp only [Prod.mk.injEq] at h
    obtain ⟨rfl, rfl⟩ := h
    simp only at hf ⊢
    refine ⟨hf, ?_, fun x hx => hb x (List.mem_of_mem_drop hx)⟩
    have key : be k (fold256 0 (bs.take k)) = bs.take k := by
      rcases hk with rfl | rfl | rfl
      · match bs, hl with
        | a :: r, _ => exact be1_fold (hb a (by simp))
      · match bs, hl with
        | a :: b :: c :: r, _ => exact be3_fold (hb a (by simp)) (hb b (by simp)) (hb c (by simp))
        | [], hl | [_], hl | [_, _], hl => simp at hl
      · match bs, hl with
        | a :: b :: c :: d :: r, _ => exact be4_fold (hb a (by simp)) (hb b (by simp)) (hb c (by simp)) (hb d (by simp))
        | [], hl | [_], hl | [_, _], hl | [_, _, _], hl => simp at hl
    rw [key, List.take_append_drop]
theorem optT_inv {b : Bool} {k : Nat} (hk : k = 1 ∨ k = 3 ∨ k = 4) {r r' : Rs} {n : Int} (hb : okBytes r.bs) (h : optT b k r = (n, r')) (hf : r'.f = 0) : r.f = 0 ∧ r.bs = optE b (be k n) ++ r'.bs ∧ okBytes r'.bs := by
  cases b
  · simp only [optT, Bool.false_eq_true, if_false, Prod.mk.injEq] at h
    obtain ⟨_, rfl⟩ := h
    exact ⟨hf, by simp [optE], hb⟩
  · simp only [optT, if_true] at h
    simpa [optE] using take_inv hk hb h hf
theorem rbit_inv {r r' : Rs} {y : Bool} (hb : okBytes r.bs) (h : rbit r = (y, r')) (hf : r'.f = 0) : r.f = 0 ∧ r.bs = be 1 (bit01 y) ++ r'.bs ∧ okBytes r'.bs := by
  generalize hg : take 1 r = q
  obtain ⟨n, r1⟩ := q
  simp only [rbit, hg, Prod.mk.injEq] at h
  obtain ⟨rfl, h2⟩ := h
  by_cases hn : n > 1 ∧ r1.f = 0
  · rw [if_pos hn] at h2
    subst h2
    cases hf
  · rw [if_neg hn] at h2
    subst h2
    obtain ⟨h3, h4, h5⟩ := take_inv (.inl rfl) hb hg hf
    refine ⟨h3, ?_, h5⟩
    rw [h4]
    have hn1 : n ≤ 1 := by
      by_cases hc : n > 1
      · exact absurd ⟨hc, hf⟩ hn
      · omega
    have hlen : ¬ r.bs.length < 1 := by rw [h4, List.length_append, length_be]; omega
    have h0 : 0 ≤ n := by
      obtain ⟨bs, f⟩ := r
      simp only at hb hlen
      rw [take, if_neg hlen] at hg
      simp only [Prod.mk.injEq] at hg
      rw [← hg.1]
      exact (fold_bounds (bs := bs.take 1) (fun x hx => hb x (List.mem_of_mem_take hx)) 0 (by omega)).1
    have : n = bit01 (n == 1) := by
      have : n = 0 ∨ n = 1 := by omega
      rcases this with rfl | rfl <;> rfl
    rw [← this]
theorem optB_inv {b y : Bool} {r r' : Rs} (hb : okBytes r.bs) (h : optB b r = (y, r')) (hf : r'.f = 0) : r.f = 0 ∧ r.bs = optE b (be 1 (bit01 y)) ++ r'.bs ∧ okBytes r'.bs := by
  cases b
  · simp only [optB, Bool.false_eq_true, if_false, Prod.mk.injEq] at h
    obtain ⟨_, rfl⟩ := h
    exact ⟨hf, by simp [optE], hb⟩
  · simp only [optB, if_true] at h
    simpa [optE] using rbit_inv hb h hf
theorem takeT_inv {r r' : Rs} {a b : Int} (hb : okBytes r.bs) (h : takeT r = ((a, b), r')) (hf : r'.f = 0) : r.f = 0 ∧ r.bs = be 1 a ++ (be 3 b ++ r'.bs) ∧ okBytes r'.bs := by
  generalize hg : take 1 r = q
  obtain ⟨n, r1⟩ := q
  simp only [takeT, hg, Prod.mk.injEq] at h
  obtain ⟨⟨rfl, h2⟩, h3⟩ := h
  generalize hg2 : take 3 r1 = q2 at h2 h3
  obtain ⟨n2, r2⟩ := q2
  simp only at h2 h3
  subst h2 h3
  have h1ok : okBytes r1.bs := by
    have hr : (take 1 r).2 = r1 := by rw [hg]
    rw [← hr, take]
    split
    · exact fun x hx => by simp at hx
    · exact fun x hx => hb x (List.mem_of_mem_drop hx)
  obtain ⟨e1, e2, e3⟩ := take_inv (.inr (.inl rfl)) h1ok hg2 hf
  obtain ⟨g1, g2, g3⟩ := take_inv (.inl rfl) hb hg e1
  exact ⟨g1, by rw [g2, e2], e3⟩
theorem rkind_inv {m k : Int} {bs : List Int} {r' : Rs} (hb : okBytes bs) (h : rkind m ⟨bs, 0⟩ = (k, r')) (hf : r'.f = 0) : bs = be 1 k ++ r'.bs ∧ okBytes r'.bs := by
  generalize hg : take 1 ⟨bs, 0⟩ = q
  obtain ⟨n, r1⟩ := q
  simp only [rkind, hg, Prod.mk.injEq] at h
  obtain ⟨h2, h3⟩ := h
  subst h3
  simp only at hf
  have h4 : ¬ ((n < 1 ∨ n > m) ∧ r1.f = 0) := by
    intro hc
    rw [if_pos hc] at hf
    cases hf
  rw [if_neg h4] at hf h2
  rw [hf] at h2
  simp only [ne_eq, not_true_eq_false, if_false] at h2
  subst h2
  obtain ⟨e1, e2, e3⟩ := take_inv (.inl rfl) hb hg hf
  exact ⟨e2, e3⟩
theorem rend_inv {r r' : Rs} (h : rend r = r') (hf : r'.f = 0) : r.f = 0 ∧ r.bs = [] := by
  subst h
  unfold rend at hf
  split at hf
  · cases hf
  · rename_i hn
    refine ⟨hf, ?_⟩
    by_cases hl : 0 < r.bs.length
    · exact absurd ⟨hf, hl⟩ hn
    · exact List.eq_nil_of_length_eq_zero (by omega)

theorem enc_dec {bs : List Int} (hb : okBytes bs) (hf : (decM bs).2.f = 0) : encM (decM bs).1 = bs := by
  unfold decM at hf ⊢
  generalize hg0 : rkind 9 ⟨bs, 0⟩ = q0 at hf ⊢
  obtain ⟨kind, r0⟩ := q0
  simp only at hf ⊢
  generalize hg1 : take 1 r0 = q1 at hf ⊢
  obtain ⟨frm, r1⟩ := q1
  simp only at hf ⊢
  generalize hg2 : take 1 r1 = q2 at hf ⊢
  obtain ⟨to, r2⟩ := q2
  simp only at hf ⊢
  generalize hg3 : takeT r2 = q3 at hf ⊢
  obtain ⟨⟨site, n⟩, r3⟩ := q3
  simp only at hf ⊢
  generalize hg4 : optT (ptk kind 0) 1 r3 = q4 at hf ⊢
  obtain ⟨label, r4⟩ := q4
  simp only at hf ⊢
  generalize hg5 : optT (ptk kind 1) 1 r4 = q5 at hf ⊢
  obtain ⟨key, r5⟩ := q5
  simp only at hf ⊢
  generalize hg6 : optT (ptk kind 2) 4 r5 = q6 at hf ⊢
  obtain ⟨value, r6⟩ := q6
  simp only at hf ⊢
  generalize hg7 : optT (ptk kind 3) 3 r6 = q7 at hf ⊢
  obtain ⟨version, r7⟩ := q7
  simp only at hf ⊢
  generalize hg8 : optT (ptk kind 4) 3 r7 = q8 at hf ⊢
  obtain ⟨ask, r8⟩ := q8
  simp only at hf ⊢
  generalize hg9 : optB (ptk kind 5) r8 = q9 at hf ⊢
  obtain ⟨yes, r9⟩ := q9
  simp only at hf ⊢
  generalize hg10 : optT (ptk kind 6) 1 r9 = q10 at hf ⊢
  obtain ⟨code, r10⟩ := q10
  simp only at hf ⊢
  have step : ∀ {k : Nat} {r r' : Rs} {x : Int}, okBytes r.bs → take k r = (x, r') → okBytes r'.bs := by
    intro k r r' x h hg
    have hr : (take k r).2 = r' := by rw [hg]
    rw [← hr, take]
    split
    · exact fun x hx => by simp at hx
    · exact fun x hx => h x (List.mem_of_mem_drop hx)
  have stepO : ∀ {b : Bool} {k : Nat} {r r' : Rs} {x : Int}, okBytes r.bs → optT b k r = (x, r') → okBytes r'.bs := by
    intro b k r r' x h hg
    cases b
    · simp only [optT, Bool.false_eq_true, if_false, Prod.mk.injEq] at hg
      rw [← hg.2]; exact h
    · simp only [optT, if_true] at hg; exact step h hg
  have b0 : okBytes r0.bs := by
    have hr : (rkind 9 ⟨bs, 0⟩).2.bs = r0.bs := by rw [hg0]
    rw [← hr]
    simp only [rkind]
    generalize hq : take 1 ⟨bs, 0⟩ = q
    obtain ⟨x, r'⟩ := q
    exact step hb hq
  have b1 := step b0 hg1
  have b2 := step b1 hg2
  have b3 : okBytes r3.bs := by
    generalize hq : take 1 r2 = q
    obtain ⟨x, r'⟩ := q
    have c1 := step b2 hq
    generalize hq2 : take 3 r' = q2
    obtain ⟨x2, r''⟩ := q2
    have c2 := step c1 hq2
    simp only [takeT, hq, hq2, Prod.mk.injEq] at hg3
    rw [← hg3.2]; exact c2
  have b4 := stepO b3 hg4
  have b5 := stepO b4 hg5
  have b6 := stepO b5 hg6
  have b7 := stepO b6 hg7
  have b8' := stepO b7 hg8
  have b9 : okBytes r9.bs := by
    generalize hq : ptk kind 5 = b at hg9
    cases b
    · simp only [optB, Bool.false_eq_true, if_false, Prod.mk.injEq] at hg9
      rw [← hg9.2]; exact b8'
    · simp only [optB, if_true] at hg9
      generalize hq2 : take 1 r8 = q2
      obtain ⟨x2, r''⟩ := q2
      have c2 := step b8' hq2
      simp only [rbit, hq2, Prod.mk.injEq] at hg9
      rw [← hg9.2]
      split <;> exact c2
  obtain ⟨e10, n10⟩ := rend_inv rfl hf
  obtain ⟨e9, n9, _⟩ := optT_inv (.inl rfl) b9 hg10 e10
  obtain ⟨e8, n8, _⟩ := optB_inv b8' hg9 e9
  obtain ⟨e7, n7, _⟩ := optT_inv (.inr (.inl rfl)) b7 hg8 e8
  obtain ⟨e6, n6, _⟩ := optT_inv (.inr (.inl rfl)) b6 hg7 e7
  obtain ⟨e5, n5, _⟩ := optT_inv (.inr (.inr rfl)) b5 hg6 e6
  obtain ⟨e4, n4, _⟩ := optT_inv (.inl rfl) b4 hg5 e5
  obtain ⟨e3, n3, _⟩ := optT_inv (.inl rfl) b3 hg4 e4
  obtain ⟨e2, n2, _⟩ := takeT_inv b2 hg3 e3
  obtain ⟨e1, n1, _⟩ := take_inv (.inl rfl) b1 hg2 e2
  obtain ⟨e0, n0, _⟩ := take_inv (.inl rfl) b0 hg1 e1
  obtain ⟨nk, _⟩ := rkind_inv hb hg0 e0
  rw [nk, n0, n1, n2, n3, n4, n5, n6, n7, n8, n9, n10, List.append_nil]
  rfl

theorem dmsg_fixed {s p : Int} {ls : List (Int × Int)} {bs : List Int} (hb : okBytes bs) (h : (dmsg s ls p bs).2 = 0) : encM (dmsg s ls p bs).1 = bs ∧ chkM s ls p (dmsg s ls p bs).1 = 0 := by
  unfold dmsg at h ⊢
  split at h
  · rename_i hc; exact absurd h hc
  · rename_i hc
    rw [if_neg hc]
    split at h
    · rename_i hd; exact absurd h hd
    · rename_i hd
      rw [if_neg hd]
      split at h
      · rename_i he; exact absurd h he
      · rename_i he
        rw [if_neg he]
        exact ⟨enc_dec hb (by simpa using hd), by simpa using he⟩
theorem dmsg_bad {s p : Int} {ls : List (Int × Int)} {bs : List Int} (h : (dmsg s ls p bs).2 ≠ 0) : (dmsg s ls p bs).1 = ms0 := by
  unfold dmsg at h ⊢
  split
  · rfl
  · rename_i hc
    rw [if_neg hc] at h
    split
    · rfl
    · rename_i hd
      rw [if_neg hd] at h
      split
      · rfl
      · rename_i he
        rw [if_neg he] at h
        exact absurd rfl h
end Go.Proofs.YteaonhddolfppaaDoor
