/-
  What a tape gives back: plain laws. No program in sight; each theorem names its conditions.
-/
import Derived.Test.YteaonhddolfppaaDoorTape
set_option linter.unusedVariables false
set_option linter.unusedSimpArgs false
namespace Go.Proofs.YteaonhddolfppaaDoor
open Go Go.Vcg

def allT (rs : List Rc) : List Int := rs.flatMap recT1
theorem allT_nil : allT [] = [] := rfl
theorem allT_cons (r : Rc) (rs : List Rc) : allT (r :: rs) = ((encR r).length : Int) :: (encR r ++ allT rs) := by simp [allT, recT1]
theorem allT_append (a b : List Rc) : allT (a ++ b) = allT a ++ allT b := by simp [allT]
theorem allT_one (r : Rc) : allT [r] = recT1 r := by simp [allT]
theorem allT_mono (rs : List Rc) {i j : Nat} (h : i ≤ j) : (allT (rs.take i)).length ≤ (allT (rs.take j)).length := by
  have e : rs.take j = rs.take i ++ (rs.take j).drop i := by
    have := List.take_append_drop i (rs.take j)
    rw [List.take_take, Nat.min_eq_left h] at this
    exact this.symm
  rw [e, allT_append, List.length_append]
  omega
theorem length_allT (rs : List Rc) (h : ∀ r ∈ rs, (encR r).length ≤ 19) : (allT rs).length ≤ 20 * rs.length := by
  induction rs with
  | nil => simp [allT]
  | cons r rs ih =>
    have h1 := ih fun x hx => h x (by simp [hx])
    have h2 := h r (by simp)
    rw [allT_cons]
    simp only [List.length_cons, List.length_append]
    omega
theorem okBytes_allT (rs : List Rc) (h : ∀ r ∈ rs, (encR r).length ≤ 19) : okBytes (allT rs) := by
  induction rs with
  | nil => intro x hx; simp [allT] at hx
  | cons r rs ih =>
    have h2 := h r (by simp)
    rw [allT_cons]
    intro x hx
    rcases List.mem_cons.1 hx with rfl | hx
    · omega
    · exact okBytes_append (okBytes_encR r) (ih fun x hx => h x (by simp [hx])) x hx

/-- The records that are whole, and how many bytes they have. -/
noncomputable def recov (S : Int) (ls : List (Int × Int)) (p : Int) : Nat → List Int → List Rc × Nat
  | 0, _ => ([], 0)
  | _ + 1, [] => ([], 0)
  | k + 1, n :: bs => if (bs.length : Int) < n then ([], 0) else if (drec S ls p (bs.take n.toNat)).2 ≠ 0 then ([], 0) else ((drec S ls p (bs.take n.toNat)).1 :: (recov S ls p k (bs.drop n.toNat)).1, 1 + n.toNat + (recov S ls p k (bs.drop n.toNat)).2)
theorem recov_nil (S : Int) (ls : List (Int × Int)) (p : Int) (k : Nat) : recov S ls p k [] = ([], 0) := by cases k <;> rfl

theorem recov_take {S p : Int} {ls : List (Int × Int)} (hs : S ≤ 4) (hs0 : 0 ≤ S) : ∀ (rs : List Rc), (∀ r ∈ rs, chkR S ls p r = 0) → ∀ (q k : Nat), q ≤ (allT rs).length → q ≤ k →
    ∃ j, j ≤ rs.length ∧ recov S ls p k ((allT rs).take q) = (rs.take j, (allT (rs.take j)).length) ∧ (allT (rs.take j)).length ≤ q ∧ ∀ i, i ≤ rs.length → (allT (rs.take i)).length ≤ q → i ≤ j
  | [], _, q, k, hq, _ => ⟨0, by simp, by simp [allT_nil, recov_nil], by simp [allT_nil], fun i hi _ => hi⟩
  | r :: rs, hg, 0, k, hq, _ => ⟨0, by simp, by simp [allT_nil, recov_nil], by simp [allT_nil], fun i hi h => by
      cases i with
      | zero => omega
      | succ i => rw [List.take_succ_cons, allT_cons] at h; simp at h⟩
  | r :: rs, hg, q + 1, 0, hq, hk => by omega
  | r :: rs, hg, q + 1, k + 1, hq, hk => by
    have hr := hg r (by simp)
    rw [allT_cons] at hq ⊢
    rw [List.take_succ_cons, recov]
    simp only [List.length_cons, List.length_append] at hq
    have hl : ((encR r ++ allT rs).take q).length = q := by rw [List.length_take, List.length_append]; omega
    rw [hl]
    simp only [Int.toNat_natCast]
    by_cases hc : q < (encR r).length
    · rw [if_pos (by omega)]
      refine ⟨0, by simp, by simp [allT_nil], by simp [allT_nil], fun i hi h => ?_⟩
      cases i with
      | zero => omega
      | succ i =>
        rw [List.take_succ_cons, allT_cons] at h
        simp only [List.length_cons, List.length_append] at h
        omega
    · rw [if_neg (by omega)]
      have e1 : ((encR r ++ allT rs).take q).take (encR r).length = encR r := by
        rw [List.take_take, Nat.min_eq_left (by omega), List.take_left' rfl]
      have e2 : ((encR r ++ allT rs).take q).drop (encR r).length = (allT rs).take (q - (encR r).length) := by
        rw [List.drop_take, List.drop_left' rfl]
      rw [e1, e2, drec_enc hr hs hs0]
      simp only [ne_eq, not_true_eq_false, if_false]
      obtain ⟨j, h1, h2, h3, h4⟩ := recov_take hs hs0 rs (fun x hx => hg x (by simp [hx])) (q - (encR r).length) k (by omega) (by omega)
      rw [h2]
      refine ⟨j + 1, by simp; omega, ?_, ?_, fun i hi h => ?_⟩
      · rw [List.take_succ_cons, allT_cons]
        simp only [List.length_cons, List.length_append, Prod.mk.injEq, true_and]
        omega
      · rw [List.take_succ_cons, allT_cons]
        simp only [List.length_cons, List.length_append]
        omega
      · cases i with
        | zero => omega
        | succ i =>
          rw [List.take_succ_cons, allT_cons] at h
          simp only [List.length_cons, List.length_append] at h hi
          have := h4 i (by omega) (by omega)
          omega
theorem recov_all {S p : Int} {ls : List (Int × Int)} (hs : S ≤ 4) (hs0 : 0 ≤ S) (rs : List Rc) (hg : ∀ r ∈ rs, chkR S ls p r = 0) : recov S ls p (allT rs).length (allT rs) = (rs, (allT rs).length) := by
  obtain ⟨j, h1, h2, h3, h4⟩ := recov_take (p := p) (ls := ls) hs hs0 rs hg (allT rs).length (allT rs).length (Nat.le_refl _) (Nat.le_refl _)
  have := h4 rs.length (Nat.le_refl _) (by rw [List.take_length]; exact Nat.le_refl _)
  have hj : j = rs.length := by omega
  subst hj
  rw [List.take_length, List.take_length] at h2
  exact h2
end Go.Proofs.YteaonhddolfppaaDoor
