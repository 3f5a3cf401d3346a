/-
  A transaction that writes only, and is committed. No conditions but those that each theorem names.
-/
import Derived.Test.YtchbnpjegacobaaDoorDkG
set_option linter.unusedVariables false
set_option linter.unusedSimpArgs false
namespace Go.Proofs.YtchbnpjegacobaaDoor
open Go Go.Vcg

def putK (keys : List Int) (i : Nat) : Int := pk (keys.getD i 0) 8
def putT (keys : List Int) : Nat → List Tk
  | 0 => []
  | i + 1 => putT keys i ++ [⟨true, 0, putK keys i, i, 0, i + 1, true, false⟩]
theorem putT_len (keys : List Int) : ∀ i, (putT keys i).length = i
  | 0 => rfl
  | i + 1 => by simp [putT, putT_len keys i]
theorem putT_all (keys : List Int) : ∀ i, ∀ t ∈ putT keys i, t.done = true ∧ t.wr = true ∧ t.label = 0
  | 0, t, h => by simp [putT] at h
  | i + 1, t, h => by
    simp only [putT, List.mem_append, List.mem_singleton] at h
    rcases h with h | rfl
    · exact putT_all keys i t h
    · exact ⟨rfl, rfl, rfl⟩
variable {S : Int}
/-- The sites that have a hand in it. -/
def putU (S : Int) (keys : List Int) (i : Nat) : List Int := sitesU S 0 (putT keys i)
theorem putU_succ (S : Int) (keys : List Int) (i : Nat) : putU S keys (i + 1) = if (putK keys i).tmod S ∈ putU S keys i then putU S keys i else putU S keys i ++ [(putK keys i).tmod S] := by
  unfold putU
  conv => lhs; rw [putT, sitesU, List.foldl_append]
  show (if (0 : Int) = 0 ∧ ¬ (putK keys i).tmod S ∈ sitesU S 0 (putT keys i) then _ else _) = _
  by_cases h : (putK keys i).tmod S ∈ sitesU S 0 (putT keys i)
  · rw [if_neg (fun q => q.2 h), if_pos h]; rfl
  · rw [if_pos ⟨rfl, h⟩, if_neg h]; rfl
theorem putU_len (S : Int) (keys : List Int) (i : Nat) : (putU S keys i).length ≤ i := by
  have := sitesU_length S 0 (putT keys i)
  rw [putT_len] at this; exact this
theorem chk_ok {m : Ms} (hS : 1 ≤ S ∧ S ≤ 4) (hk : 1 ≤ m.kind ∧ m.kind ≤ 9) (h1 : okRange S 2 m) (h2 : okForm m) : chkM S ls2 3 m = 0 := by
  have hc := check_two hS
  have h1' : okRange S ls2.length m := h1
  unfold chkM
  rw [if_neg (fun e => e hc), if_neg (by omega), if_neg (fun e => e h1'), if_neg (fun e => e h2)]
def putX (keys : List Int) (i : Nat) : Cl := ⟨3, 1, 0, putK keys i, i⟩
theorem put_step (hS : 1 ≤ S ∧ S ≤ 4) (keys : List Int) {i : Nat} (hi : i < 10) (hd : DkO (hd2 S 0 0) (2, [oneJ (putT keys i)])) :
    ∃ js, callT (hd2 S 0 0) 2 [oneJ (putT keys i)] 6000 (putX keys i) = (⟨2, 0, 0, js, [msgC ⟨2, 0, (putK keys i).tmod S, 0, 1, 0, putK keys i, i, 0, i + 1, false, 0⟩], [], []⟩, 0)
      ∧ backT (hd2 S 0 0) (2, js) ⟨2, 0, (putK keys i).tmod S, 0, 1, 0, putK keys i, i, 0, i + 1, false, 0⟩ ⟨0, 0, 0, 0, 0, 0⟩ = (2, [oneJ (putT keys (i + 1))])
      ∧ DkO (hd2 S 0 0) (2, js) ∧ DkO (hd2 S 0 0) (2, [oneJ (putT keys (i + 1))]) := by
  have hl := putT_len keys i
  have hkb := pk_bounds (keys.getD i 0) 8 (by decide)
  have hkb' : 0 ≤ putK keys i ∧ putK keys i < 8 := hkb
  have hc := one_call hS (l := 0) (by omega) hd (fun t ht => (putT_all keys i t ht).1) (by rw [hl]; exact hi) (x := putX keys i) (Or.inr rfl) rfl
    (by simp only [badR, putX]; omega) (by simp only [badL, putX]; omega)
  rw [if_neg (by simp only [putX]; omega), tsk_one] at hc
  have ht1 : 0 ≤ (putK keys i).tmod S := Int.tmod_nonneg _ hkb'.1
  have ht2 : (putK keys i).tmod S < S := Int.tmod_lt_of_pos _ (by omega)
  have hdc := dkO_keepC (okHd_2 hS (l := 0) (me := 0) (by omega) (by omega)) hd 6000 (putX keys i)
  rw [hc] at hdc
  have hdj := hdc rfl
  simp only [putX, hl] at hc hdj
  refine ⟨_, hc, ?_, hdj, ?_⟩
  all_goals
    have hm : chkM S ls2 3 ⟨6, (putK keys i).tmod S, 0, 0, 1, 0, putK keys i, 0, 0, i + 1, false, 0⟩ = 0 := by
      refine chk_ok hS (by simp only; omega) ?_ (by simp [okForm, pt, parts])
      simp only [okRange, okTxn, okKey, okVal, okAsk, okCode, Bool.and_eq_true, decide_eq_true_eq]
      exact ⟨ht1, ht2, by omega, by omega, ⟨⟨⟨by omega, by omega⟩, by omega⟩, by omega⟩, by omega, by omega, ⟨hkb'.1, hkb'.2⟩, ⟨by omega, by omega⟩, by omega, by omega, ⟨by omega, by omega⟩, by simp⟩
    have hdj' : DkO (hd2 S 0 0) (2, [⟨1, 1, putT keys i ++ [nextT (putT keys i) ⟨true, 0, putK keys i, i, 0, 0, false, false⟩], [], ((putT keys i).length : Int) + 1, 0⟩]) := by rw [hl]; exact hdj
    obtain ⟨rp, ha⟩ := one_answer hS (l := 0) (by omega) (t := ⟨true, 0, putK keys i, i, 0, 0, false, false⟩) hdj' rfl hm rfl rfl rfl rfl (by rw [hl]) rfl (fun q => absurd (show (true : Bool) = false from q) (by decide)) rfl rfl
    have hn : oneJ (putT keys i ++ [⟨true, 0, putK keys i, i, 0, (putT keys i).length + 1, true, false⟩]) = oneJ (putT keys (i + 1)) := by rw [hl]; rfl
    simp only [if_true] at ha
    rw [hn] at ha
  · have hbm : backM (hd2 S 0 0).me ⟨2, 0, (putK keys i).tmod S, 0, 1, 0, putK keys i, i, 0, i + 1, false, 0⟩ ⟨0, 0, 0, 0, 0, 0⟩ = ⟨6, (putK keys i).tmod S, 0, 0, 1, 0, putK keys i, 0, 0, i + 1, false, 0⟩ := rfl
    unfold backT keepD
    rw [hbm]
    rw [hl] at ha
    simp only [ha, if_true]
  · have hk2 := hear_dk (h := hd2 S 0 0) (check_two hS) hdj' _ (by rw [ha])
    rw [ha] at hk2
    exact hk2
theorem put_dk (hS : 1 ≤ S ∧ S ≤ 4) (keys : List Int) : ∀ i, i ≤ 10 → DkO (hd2 S 0 0) (2, [oneJ (putT keys i)])
  | 0, _ => by
    have h := dkO_keepC (okHd_2 hS (l := 0) (me := 0) (by omega) (by omega)) (dkO_0 (hd2 S 0 0)) 6000 ⟨1, 0, 0, 0, 0⟩
    rw [one_begin hS (by omega)] at h
    exact h rfl
  | i + 1, hi => by
    obtain ⟨js, _, _, _, h⟩ := put_step hS keys (by omega : i < 10) (put_dk hS keys i (by omega))
    exact h
/-- The commit. -/
theorem put_commit (hS : 1 ≤ S ∧ S ≤ 4) (keys : List Int) {i : Nat} (hi : i ≤ 10) : ∃ (L : List Int) (js : List Jb) (rs : List (List D)),
    callT (hd2 S 0 0) 2 [oneJ (putT keys i)] 6000 ⟨4, 1, 0, 0, 0⟩ = (⟨2, 1, 1, js, L.map (tellC 0 1), rs, [rpC ⟨0, 4, 1, 0, 0, 0⟩]⟩, 0)
      ∧ L.length = (putU S keys i).length ∧ (∀ y ∈ L, y ∈ putU S keys i) ∧ (js.length : Int) = min ((putU S keys i).length : Int) 1 ∧ (rs.length : Int) = min ((putU S keys i).length : Int) 1 := by
  have hd := put_dk hS keys i hi
  have hb := beg2 hS (l := 0) (me := 0) (by omega) (by omega) hd
  have hall := putT_all keys i
  have hp : placeJ [oneJ (putT keys i)] 1 = (0 : Nat) := one_place _ rfl
  have hj : jAt [oneJ (putT keys i)] 0 = oneJ (putT keys i) := rfl
  have e0 : ((0 : Nat) : Int).toNat = 0 := rfl
  have hr0 : refE (hd2 S 0 0) [oneJ (putT keys i)] ⟨4, 1, 0, 0, 0⟩ = 0 := by
    unfold refE refP
    rw [hp, if_neg (by decide), e0, hj]
    unfold refJ
    rw [if_pos (show (oneJ (putT keys i)).state = 1 from rfl), if_neg (one_waits fun t ht => (hall t ht).1), if_neg (by simp only; omega)]
  have hwj : (wdN 2 [oneJ (putT keys i)]).js = [oneJ (putT keys i)] := rfl
  have hag : (oneJ (putT keys i)).tasks.any agnB = false := by
    rw [List.any_eq_false]
    intro t ht
    have := (hall t ht).2.1
    simp [agnB, this]
  have hL1 : (cmS (hd2 S 0 0) (oneJ (putT keys i))).length = (putU S keys i).length := isort_length _
  have hL2 : ∀ y ∈ cmS (hd2 S 0 0) (oneJ (putT keys i)), y ∈ putU S keys i := by
    intro y hy
    obtain ⟨h3, h4⟩ := isort_spec (sitesU S 0 (putT keys i)) [] List.Pairwise.nil (sitesU_spec S 0 (putT keys i) [] List.nodup_nil).1 (by simp)
    have h5 := (h4 y).1 hy
    exact h5.resolve_left (by simp)
  refine ⟨cmS (hd2 S 0 0) (oneJ (putT keys i)), cmJL [oneJ (putT keys i)] 0 (oneJ (putT keys i)) (cmS (hd2 S 0 0) (oneJ (putT keys i))), cmRL 0 (oneJ (putT keys i)) (cmS (hd2 S 0 0) (oneJ (putT keys i))), ?_, hL1, hL2, ?_, ?_⟩
  · rw [callT_ok 6000 hb (by simp only; omega), callW, if_neg (by simp only; omega), hwj, if_pos hr0, hp, e0]
    unfold callP
    rw [if_neg (by simp only; omega), if_neg (by simp only; omega), if_pos rfl]
    unfold cgW
    rw [hwj, hj, if_neg (by rw [hag]; decide)]
    rfl
  · generalize hc : cmS (hd2 S 0 0) (oneJ (putT keys i)) = L at hL1
    cases L with
    | nil => simp only [List.length_nil] at hL1; rw [← hL1]; rfl
    | cons x L =>
      simp only [List.length_cons] at hL1
      simp only [cmJL, List.isEmpty_cons, Bool.false_eq_true, if_false]
      have : ([oneJ (putT keys i)].set 0 ⟨(oneJ (putT keys i)).n, 3, (oneJ (putT keys i)).tasks, x :: L, (oneJ (putT keys i)).asks, 0⟩).length = 1 := rfl
      rw [this]; omega
  · generalize hc : cmS (hd2 S 0 0) (oneJ (putT keys i)) = L at hL1
    cases L with
    | nil => simp only [List.length_nil] at hL1; rw [← hL1]; rfl
    | cons x L =>
      simp only [List.length_cons] at hL1
      have hw : (oneJ (putT keys i)).tasks.any (fun t => t.wr) = true := by
        cases i with
        | zero => simp [putU, putT, sitesU] at hL1
        | succ i => simp [oneJ, putT]
      simp only [cmRL, List.isEmpty_cons, Bool.false_eq_true, if_false, hw, if_true, List.length_cons, List.length_nil]
      omega
def hnd (S : Int) (U : List Int) : List (List D) := (List.range S.toNat).map fun (x : Nat) => [.bool (decide ((x : Int) ∈ U))]
theorem hnd_nil (S : Int) : List.replicate S.toNat [D.bool false] = hnd S [] := by
  apply List.ext_getElem (by simp [hnd])
  intro k h1 h2
  simp [hnd]
theorem hnd_len (S : Int) (U : List Int) : (hnd S U).length = S.toNat := by simp [hnd]
theorem hnd_elem {S : Int} (U : List Int) {q : Nat} (h : q < S.toNat) : elem (hnd S U) q = [.bool (decide ((q : Int) ∈ U))] := by
  simp [elem, hnd, List.getD, h]
theorem hnd_set {S : Int} (U : List Int) {q : Nat} (h : q < S.toNat) : (hnd S U).set q [.bool true] = hnd S (U ++ [(q : Int)]) := by
  apply List.ext_getElem (by simp [hnd])
  intro k h1 h2
  rw [List.getElem_set]
  simp only [hnd, List.getElem_map, List.getElem_range]
  split
  · rename_i e; subst e; simp
  · rename_i e
    have : ¬ (k : Int) = q := by omega
    simp [this]
end Go.Proofs.YtchbnpjegacobaaDoor
