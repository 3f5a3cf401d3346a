/-
  Records as bytes and back: plain laws. No program in sight; each theorem names its conditions.
-/
import Derived.Test.YteaonhddolfppaaDoorRec
import Derived.Test.YteaonhddolfppaaDoorWrI
set_option linter.unusedVariables false
set_option linter.unusedSimpArgs false
namespace Go.Proofs.YteaonhddolfppaaDoor
open Go Go.Vcg

/-- The bytes of sites. -/
def sitesB (l : List Int) : List Int := l.flatMap (be 1)
/-- The bytes of a record. -/
def encR (r : Rc) : List Int :=
  be 1 r.kind ++ (be 1 r.site ++ (be 3 r.n ++ (optE (rp r.kind 1) (be 1 r.key) ++ (optE (rp r.kind 2) (be 4 r.value) ++ (optE (rp r.kind 4) (be 3 r.ask) ++ (optE (rp r.kind 5) (be 1 (bit01 r.yes)) ++ optE (rp r.kind 7) (be 1 r.sites.length ++ sitesB r.sites)))))))
theorem sitesB_append (a b : List Int) : sitesB (a ++ b) = sitesB a ++ sitesB b := by simp [sitesB]
theorem length_sitesB (l : List Int) : (sitesB l).length = l.length := by
  induction l with
  | nil => rfl
  | cons x l ih => simp only [sitesB, List.flatMap_cons, List.length_append, length_be, List.length_cons] at ih ⊢; omega

theorem chkR_zero {s : Int} {ls : List (Int × Int)} {p : Int} {r : Rc} (h : chkR s ls p r = 0) : check s ls p = 0 ∧ 1 ≤ r.kind ∧ r.kind ≤ 6 ∧ okNums s r ∧ okUpto s r.sites r.sites.length ∧ okFormR r := by
  unfold chkR at h
  split at h
  · rename_i h1; exact absurd h h1
  · rename_i h1
    split at h
    · cases h
    · rename_i h2
      split at h
      · cases h
      · rename_i h3
        split at h
        · cases h
        · rename_i h4
          split at h
          · cases h
          · rename_i h5
            exact ⟨by simpa using h1, by omega, by omega, by simpa using h3, by simpa using h4, by simpa using h5⟩
theorem okUpto_ge {S : Int} {l : List Int} {j : Nat} (h : okUpto S l j) : ∀ i, i < j → (i : Int) ≤ l.getD i 0
  | 0, hi => by have := (h 0 hi).1; omega
  | i + 1, hi => by
    have h1 := okUpto_ge h i (by omega)
    have h2 := (h (i + 1) hi).2.2 (by omega)
    simp only [Nat.add_sub_cancel] at h2
    omega
theorem okUpto_len {S : Int} {l : List Int} (h : okUpto S l l.length) (hS : 0 ≤ S) : (l.length : Int) ≤ S := by
  by_cases h0 : l.length = 0
  · omega
  · have h1 := okUpto_ge h (l.length - 1) (by omega)
    have h2 := (h (l.length - 1) (by omega)).2.1
    omega
theorem okUpto_mem {S : Int} {l : List Int} (h : okUpto S l l.length) (j : Nat) (hj : j < l.length) : 0 ≤ l[j] ∧ l[j] < S := by
  have := h j hj
  simp only [List.getD, List.getElem?_eq_getElem hj, Option.getD_some] at this
  exact ⟨this.1, this.2.1⟩

/-! ### From bytes -/
def takeS : Nat → Rs → List Int × Rs
  | 0, r => ([], r)
  | k + 1, r => if r.f ≠ 0 then ([], r) else ((take 1 r).1 :: (takeS k (take 1 r).2).1, (takeS k (take 1 r).2).2)
def sitesT (b : Bool) (r : Rs) : List Int × Rs := if b = true then takeS (take 1 r).1.toNat (take 1 r).2 else ([], r)
/-- A record out of bytes, and what is left. -/
def decR (bs : List Int) : Rc × Rs :=
  match rkind 6 ⟨bs, 0⟩ with
  | (kind, r0) => match takeT r0 with
  | ((site, n), r1) => match optT (rp kind 1) 1 r1 with
  | (key, r2) => match optT (rp kind 2) 4 r2 with
  | (value, r3) => match optT (rp kind 4) 3 r3 with
  | (ask, r4) => match optB (rp kind 5) r4 with
  | (yes, r5) => match sitesT (rp kind 7) r5 with
  | (sites, r6) => (⟨kind, site, n, key, value, ask, yes, sites⟩, rend r6)
def rc0 : Rc := ⟨0, 0, 0, 0, 0, 0, false, []⟩
/-- A record out of bytes; else what was wrong. -/
noncomputable def drec (s : Int) (ls : List (Int × Int)) (p : Int) (bs : List Int) : Rc × Int :=
  if check s ls p ≠ 0 then (rc0, check s ls p) else if (decR bs).2.f ≠ 0 then (rc0, (decR bs).2.f) else if chkR s ls p (decR bs).1 ≠ 0 then (rc0, chkR s ls p (decR bs).1) else ((decR bs).1, 0)

theorem sitesB_cons (x : Int) (l : List Int) : sitesB (x :: l) = be 1 x ++ sitesB l := by simp [sitesB]
theorem takeS_be : ∀ (l : List Int) (t : List Int), (∀ x ∈ l, 0 ≤ x ∧ x < 256) → takeS l.length ⟨sitesB l ++ t, 0⟩ = (l, ⟨t, 0⟩)
  | [], t, _ => by simp [takeS, sitesB]
  | x :: l, t, h => by
    have hx := h x (by simp)
    have ih := takeS_be l t (fun y hy => h y (by simp [hy]))
    rw [sitesB_cons, List.append_assoc, List.length_cons, takeS, if_neg (by simp), take_be 1 x 0 _ (fold_be1 hx.1 hx.2)]
    simp only [ih]
theorem sitesT_be (b : Bool) (l t : List Int) (h : ∀ x ∈ l, 0 ≤ x ∧ x < 256) (hl : l.length < 256) (h0 : b = false → l = []) : sitesT b ⟨optE b (be 1 l.length ++ sitesB l) ++ t, 0⟩ = (l, ⟨t, 0⟩) := by
  cases b
  · simp [sitesT, optE, h0 rfl]
  · simp only [sitesT, optE, if_true, List.append_assoc]
    rw [take_be 1 _ 0 _ (fold_be1 (by omega) (by omega))]
    simp only [Int.toNat_natCast]
    exact takeS_be l t h

/-- What a record that may be is like. -/
structure GoodR (r : Rc) : Prop where
  kind : 1 ≤ r.kind ∧ r.kind ≤ 6
  site : 0 ≤ r.site ∧ r.site < 256
  n : 0 ≤ r.n ∧ r.n < 16777216
  key : 0 ≤ r.key ∧ r.key < 256
  value : 0 ≤ r.value ∧ r.value < 4294967296
  ask : 0 ≤ r.ask ∧ r.ask < 16777216
  sites : ∀ x ∈ r.sites, 0 ≤ x ∧ x < 256
  len : r.sites.length < 256
  form : okFormR r
theorem goodR {s p : Int} {ls : List (Int × Int)} {r : Rc} (h : chkR s ls p r = 0) (hs : s ≤ 4) (hs0 : 0 ≤ s) : GoodR r := by
  obtain ⟨h0, h1, h2, hr, hu, hf⟩ := chkR_zero h
  simp only [okNums, okTxn, okKey, okVal, okAsk, Bool.and_eq_true, decide_eq_true_eq] at hr
  have hl := okUpto_len hu hs0
  refine ⟨⟨h1, h2⟩, by omega, by omega, by omega, by omega, by omega, fun x hx => ?_, by omega, hf⟩
  obtain ⟨j, hj, rfl⟩ := List.getElem_of_mem hx
  have := okUpto_mem hu j hj
  omega

theorem dec_encR {r : Rc} (h : GoodR r) (t : List Int) : decR (encR r ++ t) = (r, rend ⟨t, 0⟩) := by
  obtain ⟨f1, f2, f3, f4, f5⟩ := h.form
  simp only [decR, encR, List.append_assoc]
  rw [rkind_be _ _ _ h.kind.1 h.kind.2 (by decide)]
  simp only
  rw [takeT_be r.site r.n 0 _ (fold_be1 h.site.1 h.site.2) (fold_be3 h.n.1 h.n.2)]
  simp only
  rw [optT_be _ 1 r.key 0 _ (fold_be1 h.key.1 h.key.2) f1]
  simp only
  rw [optT_be _ 4 r.value 0 _ (fold_be4 h.value.1 h.value.2) f2]
  simp only
  rw [optT_be _ 3 r.ask 0 _ (fold_be3 h.ask.1 h.ask.2) f3]
  simp only
  rw [optB_be _ r.yes 0 _ f4]
  simp only
  rw [sitesT_be _ r.sites t h.sites h.len (fun q => List.eq_nil_of_length_eq_zero (f5 q))]
theorem drec_enc {s p : Int} {ls : List (Int × Int)} {r : Rc} (h : chkR s ls p r = 0) (hs : s ≤ 4) (hs0 : 0 ≤ s) : drec s ls p (encR r) = (r, 0) := by
  have hd := dec_encR (goodR h hs hs0) []
  rw [List.append_nil] at hd
  have hr : rend ⟨[], 0⟩ = ⟨[], 0⟩ := by simp [rend]
  rw [hr] at hd
  have hc := (chkR_zero h).1
  simp [drec, hd, h, hc]
theorem drec_tail {s p : Int} {ls : List (Int × Int)} {r : Rc} (h : chkR s ls p r = 0) (hs : s ≤ 4) (hs0 : 0 ≤ s) (t : Int) : drec s ls p (encR r ++ [t]) = (rc0, 4) := by
  have hd := dec_encR (goodR h hs hs0) [t]
  have hr : rend ⟨[t], 0⟩ = ⟨[t], 4⟩ := by simp [rend]
  rw [hr] at hd
  have hc := (chkR_zero h).1
  simp [drec, hd, hc]

/-! ### What is torn -/
theorem sh_takeS {rest : List Int} : ∀ (l : List Int) {r : Rs}, Sh r (sitesB l ++ rest) → Sh (takeS l.length r).2 rest
  | [], r, h => by simpa [takeS, sitesB] using h
  | x :: l, r, h => by
    rw [List.length_cons, takeS]
    split
    · rename_i hf
      rcases h with rfl | ⟨j, hj, rfl⟩
      · exact .inl rfl
      · exact absurd rfl hf
    · rw [sitesB_cons, List.append_assoc] at h
      exact sh_takeS l (sh_take (by decide) h)
theorem sh_sitesT {b : Bool} {l rest : List Int} (hl : l.length < 256) {r : Rs} (h : Sh r (optE b (be 1 l.length ++ sitesB l) ++ rest)) : Sh (sitesT b r).2 rest := by
  cases b
  · simpa [sitesT, optE] using h
  · simp only [sitesT, optE, if_true, List.append_assoc] at h ⊢
    rcases h with rfl | ⟨j, hj, rfl⟩
    · rw [take_end 1 (by decide)]; exact .inl rfl
    · cases j with
      | zero => left; simp [take, takeS]
      | succ j =>
        have hk : (be 1 l.length ++ (sitesB l ++ rest)).take (j + 1) = be 1 l.length ++ (sitesB l ++ rest).take j := by
          rw [List.take_append, length_be, List.take_of_length_le (by rw [length_be]; omega)]
          simp
        rw [hk, take_be 1 _ 0 _ (fold_be1 (by omega) (by omega))]
        simp only [Int.toNat_natCast]
        refine sh_takeS l (.inr ⟨j, ?_, rfl⟩)
        rw [List.length_append, length_be] at hj; omega
theorem dec_nilR : (decR []).2 = ⟨[], 5⟩ := by
  have h : rkind 6 ⟨[], 0⟩ = (0, ⟨[], 5⟩) := by simp [rkind, take]
  have hs : ∀ b, sitesT b ⟨[], 5⟩ = ([], ⟨[], 5⟩) := fun b => by
    cases b
    · simp [sitesT]
    · simp [sitesT, take_end 1 (by decide), takeS]
  simp only [decR, h, take_end 1 (by decide), takeT, take_end 3 (by decide), optT_end _ 1 (by decide), optT_end _ 4 (by decide), optT_end _ 3 (by decide), optB_end, hs]
  simp [rend]
theorem dec_tornR {r : Rc} (h : GoodR r) (j : Nat) (hj : j < (encR r).length) : (decR ((encR r).take j)).2 = ⟨[], 5⟩ := by
  cases j with
  | zero => rw [List.take_zero]; exact dec_nilR
  | succ j =>
    obtain ⟨rest, hrest⟩ : ∃ rest, encR r = be 1 r.kind ++ rest := ⟨_, rfl⟩
    have hr2 : rest = be 1 r.site ++ (be 3 r.n ++ (optE (rp r.kind 1) (be 1 r.key) ++ (optE (rp r.kind 2) (be 4 r.value) ++ (optE (rp r.kind 4) (be 3 r.ask) ++ (optE (rp r.kind 5) (be 1 (bit01 r.yes)) ++ (optE (rp r.kind 7) (be 1 r.sites.length ++ sitesB r.sites) ++ [])))))) := by
      rw [encR] at hrest
      rw [List.append_nil]
      exact (List.append_cancel_left hrest).symm
    rw [hrest] at hj ⊢
    have hk1 : (be 1 r.kind ++ rest).take (j + 1) = be 1 r.kind ++ rest.take j := by
      rw [List.take_append, length_be, List.take_of_length_le (by rw [length_be]; omega)]
      simp
    have hjr : j < rest.length := by rw [List.length_append, length_be] at hj; omega
    rw [hk1]
    simp only [decR, rkind_be _ _ _ h.kind.1 h.kind.2 (by decide)]
    have s0 : Sh ⟨rest.take j, 0⟩ rest := .inr ⟨j, hjr, rfl⟩
    generalize (⟨rest.take j, 0⟩ : Rs) = r0 at s0
    rw [hr2] at s0
    have s3 := sh_takeT s0
    generalize takeT r0 = q3 at s3
    obtain ⟨⟨_, _⟩, r3⟩ := q3
    have s4 := sh_optT (by decide) s3
    simp only at s4 ⊢
    generalize optT _ 1 r3 = q4 at s4
    obtain ⟨_, r4⟩ := q4
    have s5 := sh_optT (by decide) s4
    simp only at s5 ⊢
    generalize optT _ 4 r4 = q5 at s5
    obtain ⟨_, r5⟩ := q5
    have s6 := sh_optT (by decide) s5
    simp only at s6 ⊢
    generalize optT _ 3 r5 = q6 at s6
    obtain ⟨_, r6⟩ := q6
    have s7 := sh_optB s6
    simp only at s7 ⊢
    generalize optB _ r6 = q7 at s7
    obtain ⟨_, r7⟩ := q7
    have s8 := sh_sitesT h.len s7
    simp only at s8 ⊢
    generalize sitesT _ r7 = q8 at s8
    obtain ⟨_, r8⟩ := q8
    have := sh_nil s8
    simp only at this ⊢
    rw [this]
    simp [rend]
theorem drec_torn {s p : Int} {ls : List (Int × Int)} {r : Rc} (h : chkR s ls p r = 0) (hs : s ≤ 4) (hs0 : 0 ≤ s) (j : Nat) (hj : j < (encR r).length) : drec s ls p ((encR r).take j) = (rc0, 5) := by
  have hd := dec_tornR (goodR h hs hs0) j hj
  have hc := (chkR_zero h).1
  simp [drec, hd, hc]
theorem drec_nil {s p : Int} {ls : List (Int × Int)} (hc : check s ls p = 0) : drec s ls p [] = (rc0, 5) := by
  simp [drec, dec_nilR, hc]

/-! ### Back and forth -/
theorem takeS_inv : ∀ (k : Nat) {r r' : Rs} {l : List Int}, okBytes r.bs → takeS k r = (l, r') → r'.f = 0 → r.f = 0 ∧ r.bs = sitesB l ++ r'.bs ∧ okBytes r'.bs ∧ l.length = k
  | 0, r, r', l, hb, h, hf => by
    simp only [takeS, Prod.mk.injEq] at h
    obtain ⟨rfl, rfl⟩ := h
    exact ⟨hf, by simp [sitesB], hb, rfl⟩
  | k + 1, r, r', l, hb, h, hf => by
    rw [takeS] at h
    split at h
    · rename_i h0
      simp only [Prod.mk.injEq] at h
      obtain ⟨rfl, rfl⟩ := h
      exact absurd hf h0
    · simp only [Prod.mk.injEq] at h
      obtain ⟨rfl, h2⟩ := h
      have hb1 : okBytes (take 1 r).2.bs := by
        rw [take]
        split
        · exact fun x hx => by simp at hx
        · exact fun x hx => hb x (List.mem_of_mem_drop hx)
      obtain ⟨e1, e2, e3, e4⟩ := takeS_inv k (l := (takeS k (take 1 r).2).1) hb1 (by rw [← h2]) hf
      obtain ⟨g1, g2, _⟩ := take_inv (.inl rfl) hb (show take 1 r = ((take 1 r).1, (take 1 r).2) from rfl) e1
      exact ⟨g1, by rw [sitesB_cons, List.append_assoc, ← e2, ← g2], e3, by simp [e4]⟩
theorem byte_take1 {r : Rs} {n : Int} {r' : Rs} (hb : okBytes r.bs) (h : take 1 r = (n, r')) : 0 ≤ n := by
  rw [take] at h
  split at h
  · simp only [Prod.mk.injEq] at h; omega
  · simp only [Prod.mk.injEq] at h
    rw [← h.1]
    exact (fold_bounds (bs := r.bs.take 1) (fun x hx => hb x (List.mem_of_mem_take hx)) 0 (by omega)).1
theorem sitesT_inv {b : Bool} {r r' : Rs} {l : List Int} (hb : okBytes r.bs) (h : sitesT b r = (l, r')) (hf : r'.f = 0) : r.f = 0 ∧ r.bs = optE b (be 1 l.length ++ sitesB l) ++ r'.bs ∧ okBytes r'.bs := by
  cases b
  · simp only [sitesT, Bool.false_eq_true, if_false, Prod.mk.injEq] at h
    obtain ⟨_, rfl⟩ := h
    exact ⟨hf, by simp [optE], hb⟩
  · simp only [sitesT, if_true] at h
    generalize hg : take 1 r = q at h
    obtain ⟨n, r1⟩ := q
    simp only at h
    have hn := byte_take1 hb hg
    have hb1 : okBytes r1.bs := by
      have hr : (take 1 r).2 = r1 := by rw [hg]
      rw [← hr, take]
      split
      · exact fun x hx => by simp at hx
      · exact fun x hx => hb x (List.mem_of_mem_drop hx)
    obtain ⟨e1, e2, e3, e4⟩ := takeS_inv n.toNat hb1 h hf
    obtain ⟨g1, g2, _⟩ := take_inv (.inl rfl) hb hg e1
    have hln : (l.length : Int) = n := by omega
    exact ⟨g1, by simp only [optE, if_true]; rw [hln, List.append_assoc, ← e2, ← g2], e3⟩
theorem enc_decR {bs : List Int} (hb : okBytes bs) (hf : (decR bs).2.f = 0) : encR (decR bs).1 = bs := by
  unfold decR at hf ⊢
  generalize hg0 : rkind 6 ⟨bs, 0⟩ = q0 at hf ⊢
  obtain ⟨kind, r0⟩ := q0
  simp only at hf ⊢
  generalize hg3 : takeT r0 = q3 at hf ⊢
  obtain ⟨⟨site, n⟩, r3⟩ := q3
  simp only at hf ⊢
  generalize hg5 : optT (rp kind 1) 1 r3 = q5 at hf ⊢
  obtain ⟨key, r5⟩ := q5
  simp only at hf ⊢
  generalize hg6 : optT (rp kind 2) 4 r5 = q6 at hf ⊢
  obtain ⟨value, r6⟩ := q6
  simp only at hf ⊢
  generalize hg8 : optT (rp kind 4) 3 r6 = q8 at hf ⊢
  obtain ⟨ask, r8⟩ := q8
  simp only at hf ⊢
  generalize hg9 : optB (rp kind 5) r8 = q9 at hf ⊢
  obtain ⟨yes, r9⟩ := q9
  simp only at hf ⊢
  generalize hg10 : sitesT (rp kind 7) r9 = q10 at hf ⊢
  obtain ⟨sites, r10⟩ := q10
  simp only at hf ⊢
  have step : ∀ {k : Nat} {r r' : Rs} {x : Int}, okBytes r.bs → take k r = (x, r') → okBytes r'.bs := by
    intro k r r' x h hg
    have hr : (take k r).2 = r' := by rw [hg]
    rw [← hr, take]
    split
    · exact fun x hx => by simp at hx
    · exact fun x hx => h x (List.mem_of_mem_drop hx)
  have stepO : ∀ {b : Bool} {k : Nat} {r r' : Rs} {x : Int}, okBytes r.bs → optT b k r = (x, r') → okBytes r'.bs := by
    intro b k r r' x h hg
    cases b
    · simp only [optT, Bool.false_eq_true, if_false, Prod.mk.injEq] at hg
      rw [← hg.2]; exact h
    · simp only [optT, if_true] at hg; exact step h hg
  have b0 : okBytes r0.bs := by
    have hr : (rkind 6 ⟨bs, 0⟩).2.bs = r0.bs := by rw [hg0]
    rw [← hr]
    simp only [rkind]
    generalize hq : take 1 ⟨bs, 0⟩ = q
    obtain ⟨x, r'⟩ := q
    exact step hb hq
  have b3 : okBytes r3.bs := by
    generalize hq : take 1 r0 = q
    obtain ⟨x, r'⟩ := q
    have c1 := step b0 hq
    generalize hq2 : take 3 r' = q2
    obtain ⟨x2, r''⟩ := q2
    have c2 := step c1 hq2
    simp only [takeT, hq, hq2, Prod.mk.injEq] at hg3
    rw [← hg3.2]; exact c2
  have b5 := stepO b3 hg5
  have b6 := stepO b5 hg6
  have b8' := stepO b6 hg8
  have b9 : okBytes r9.bs := by
    generalize hq : rp kind 5 = b at hg9
    cases b
    · simp only [optB, Bool.false_eq_true, if_false, Prod.mk.injEq] at hg9
      rw [← hg9.2]; exact b8'
    · simp only [optB, if_true] at hg9
      generalize hq2 : take 1 r8 = q2
      obtain ⟨x2, r''⟩ := q2
      have c2 := step b8' hq2
      simp only [rbit, hq2, Prod.mk.injEq] at hg9
      rw [← hg9.2]
      split <;> exact c2
  obtain ⟨e10, n10⟩ := rend_inv rfl hf
  obtain ⟨e9, n9, _⟩ := sitesT_inv b9 hg10 e10
  obtain ⟨e8, n8, _⟩ := optB_inv b8' hg9 e9
  obtain ⟨e6, n6, _⟩ := optT_inv (.inr (.inl rfl)) b6 hg8 e8
  obtain ⟨e5, n5, _⟩ := optT_inv (.inr (.inr rfl)) b5 hg6 e6
  obtain ⟨e3, n3, _⟩ := optT_inv (.inl rfl) b3 hg5 e5
  obtain ⟨e0, n0, _⟩ := takeT_inv b0 hg3 e3
  obtain ⟨nk, _⟩ := rkind_inv hb hg0 e0
  rw [nk, n0, n3, n5, n6, n8, n9, n10, List.append_nil]
  rfl
theorem drec_fixed {s p : Int} {ls : List (Int × Int)} {bs : List Int} (hb : okBytes bs) (h : (drec s ls p bs).2 = 0) : encR (drec s ls p bs).1 = bs ∧ chkR s ls p (drec s ls p bs).1 = 0 := by
  unfold drec at h ⊢
  split at h
  · rename_i hc; exact absurd h hc
  · rename_i hc
    rw [if_neg hc]
    split at h
    · rename_i hd; exact absurd h hd
    · rename_i hd
      rw [if_neg hd]
      split at h
      · rename_i he; exact absurd h he
      · rename_i he
        rw [if_neg he]
        exact ⟨enc_decR hb (by simpa using hd), by simpa using he⟩
theorem drec_bad {s p : Int} {ls : List (Int × Int)} {bs : List Int} (h : (drec s ls p bs).2 ≠ 0) : (drec s ls p bs).1 = rc0 := by
  unfold drec at h ⊢
  split
  · rfl
  · rename_i hc
    rw [if_neg hc] at h
    split
    · rfl
    · rename_i hd
      rw [if_neg hd] at h
      split
      · rfl
      · rename_i he
        rw [if_neg he] at h
        exact absurd rfl h
end Go.Proofs.YteaonhddolfppaaDoor
