/-
  Records of raw numbers: plain laws. No program in sight; each theorem names its conditions.
-/
import Derived.Test.YteaonhddolfppaaDoorRecP
set_option linter.unusedVariables false
set_option linter.unusedSimpArgs false
namespace Go.Proofs.YteaonhddolfppaaDoor
open Go Go.Vcg

def bitS (c : Int) (s : Nat) : Bool := decide ((c / 2 ^ s).tmod 2 = 1)
def sitesOf (c : Int) : Nat → List Int
  | 0 => []
  | k + 1 => if bitS c k = true then sitesOf c k ++ [(k : Int)] else sitesOf c k
/-- A record of raw numbers. -/
def mkRec (S : Int) (r : Rw) : Rc :=
  if 1 + pk r.k 6 = 1 then ⟨1 + pk r.k 6, pk r.a S, 1 + pk r.b 6, pk r.c 8, pk r.d 1073741824, pk r.e 9, false, []⟩
  else if 1 + pk r.k 6 = 2 ∨ 1 + pk r.k 6 = 6 then ⟨1 + pk r.k 6, pk r.a S, 1 + pk r.b 6, 0, 0, 0, decide (pk r.c 2 = 1), []⟩
  else if 1 + pk r.k 6 = 3 then ⟨1 + pk r.k 6, pk r.a S, 1 + pk r.b 6, 0, 0, 0, false, sitesOf (pk r.c 16) S.toNat⟩
  else ⟨1 + pk r.k 6, pk r.a S, 1 + pk r.b 6, 0, 0, 0, false, []⟩

theorem length_sitesOf (c : Int) : ∀ k, (sitesOf c k).length ≤ k
  | 0 => by simp [sitesOf]
  | k + 1 => by
    have := length_sitesOf c k
    rw [sitesOf]
    split
    · rw [List.length_append]; simp; omega
    · omega
theorem okUpto_mono {S S' : Int} {l : List Int} {j : Nat} (h : okUpto S l j) (hs : S ≤ S') : okUpto S' l j := fun i hi => by
  obtain ⟨h1, h2, h3⟩ := h i hi
  exact ⟨h1, by omega, h3⟩
theorem okUpto_sitesOf (c : Int) : ∀ k : Nat, okUpto k (sitesOf c k) (sitesOf c k).length
  | 0 => fun i hi => by simp [sitesOf] at hi
  | k + 1 => by
    have ih := okUpto_sitesOf c k
    rw [sitesOf]
    split
    · intro i hi
      rw [List.length_append, List.length_singleton] at hi
      have hk : ((k + 1 : Nat) : Int) = k + 1 := by omega
      rw [hk]
      by_cases he : i < (sitesOf c k).length
      · obtain ⟨h1, h2, h3⟩ := ih i he
        have e1 : (sitesOf c k ++ [(k : Int)]).getD i 0 = (sitesOf c k).getD i 0 := by
          simp [List.getD, List.getElem?_append_left he]
        have e2 : (sitesOf c k ++ [(k : Int)]).getD (i - 1) 0 = (sitesOf c k).getD (i - 1) 0 := by
          simp [List.getD, List.getElem?_append_left (show i - 1 < (sitesOf c k).length by omega)]
        rw [e1, e2]
        exact ⟨h1, by omega, h3⟩
      · have hi' : i = (sitesOf c k).length := by omega
        subst hi'
        have e1 : (sitesOf c k ++ [(k : Int)]).getD (sitesOf c k).length 0 = k := by simp [List.getD]
        rw [e1]
        refine ⟨by omega, by omega, fun h0 => ?_⟩
        have e2 : (sitesOf c k ++ [(k : Int)]).getD ((sitesOf c k).length - 1) 0 = (sitesOf c k).getD ((sitesOf c k).length - 1) 0 := by
          simp [List.getD, List.getElem?_append_left (show (sitesOf c k).length - 1 < (sitesOf c k).length by omega)]
        rw [e2]
        exact (ih ((sitesOf c k).length - 1) (by omega)).2.1
    · exact okUpto_mono ih (by omega)

theorem mkRec_kind (S : Int) (r : Rw) : (mkRec S r).kind = 1 + pk r.k 6 := by
  unfold mkRec
  repeat' split
  all_goals rfl
theorem mkRec_sites (S : Int) (r : Rw) (hS : S ≤ 4) : (mkRec S r).sites.length ≤ 4 := by
  have := length_sitesOf (pk r.c 16) S.toNat
  unfold mkRec
  repeat' split
  all_goals first | (simp; done) | (simp only; omega)
theorem mkRec_nums (S : Int) (r : Rw) (hS : 1 ≤ S) : okNums S (mkRec S r) := by
  have b1 := pk_bounds r.a S (by omega)
  have b2 := pk_bounds r.b 6 (by decide)
  have b3 := pk_bounds r.c 8 (by decide)
  have b4 := pk_bounds r.d 1073741824 (by decide)
  have b5 := pk_bounds r.e 9 (by decide)
  unfold mkRec
  repeat' split
  all_goals
    simp only [okNums, okTxn, okKey, okVal, okAsk, Bool.and_eq_true, decide_eq_true_eq]
    omega
theorem mkRec_upto (S : Int) (r : Rw) (hS : 1 ≤ S) : okUpto S (mkRec S r).sites (mkRec S r).sites.length := by
  have h0 : okUpto S ([] : List Int) 0 := fun i hi => by omega
  unfold mkRec
  repeat' split
  all_goals first
    | exact h0
    | (have := okUpto_sitesOf (pk r.c 16) S.toNat
       have e : ((S.toNat : Nat) : Int) = S := by omega
       rw [e] at this
       exact this)
theorem mkRec_form (S : Int) (r : Rw) : okFormR (mkRec S r) := by
  have b := pk_bounds r.k 6 (by decide)
  have hk : 1 + pk r.k 6 = 1 ∨ 1 + pk r.k 6 = 2 ∨ 1 + pk r.k 6 = 3 ∨ 1 + pk r.k 6 = 4 ∨ 1 + pk r.k 6 = 5 ∨ 1 + pk r.k 6 = 6 := by omega
  rcases hk with h | h | h | h | h | h <;> simp only [okFormR, mkRec, h] <;> simp [rp, rparts]
theorem mkRec_ok (S P : Int) (ls : List (Int × Int)) (r : Rw) (hc : check S ls P = 0) (hS : 1 ≤ S) : chkR S ls P (mkRec S r) = 0 := by
  have b := pk_bounds r.k 6 (by decide)
  have hk := mkRec_kind S r
  rw [chkR, if_neg (by simp [hc]), if_neg (by omega), if_neg (by simpa using mkRec_nums S r hS), if_neg (by simpa using mkRec_upto S r hS), if_neg (by simpa using mkRec_form S r)]
theorem encR_len (r : Rc) : (encR r).length ≤ 15 + r.sites.length := by
  have key : ∀ (b : Bool) (l : List Int), (optE b l).length ≤ l.length := fun b l => by cases b <;> simp [optE]
  have k1 := key (rp r.kind 1) (be 1 r.key)
  have k2 := key (rp r.kind 2) (be 4 r.value)
  have k4 := key (rp r.kind 4) (be 3 r.ask)
  have k5 := key (rp r.kind 5) (be 1 (bit01 r.yes))
  have k7 := key (rp r.kind 7) (be 1 r.sites.length ++ sitesB r.sites)
  simp only [List.length_append, length_be, length_sitesB] at k1 k2 k4 k5 k7
  simp only [encR, List.length_append, length_be]
  omega
theorem encR_pos (r : Rc) : 0 < (encR r).length := by
  simp only [encR, List.length_append, length_be]; omega
end Go.Proofs.YteaonhddolfppaaDoor
