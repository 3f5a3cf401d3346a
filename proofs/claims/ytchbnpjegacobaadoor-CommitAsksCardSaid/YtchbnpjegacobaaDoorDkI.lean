/-
  A transaction that reads only, and asks again when it is to be committed. No conditions but those that each theorem names.
-/
import Derived.Test.YtchbnpjegacobaaDoorDkH
set_option linter.unusedVariables false
set_option linter.unusedSimpArgs false
namespace Go.Proofs.YtchbnpjegacobaaDoor
open Go Go.Vcg

def gtV (k : Nat) : Int := pk k 50
def gtN (k : Nat) : Int := pk k 4
/-- The k-th read; the first i are sure. -/
def gtK (i k : Nat) : Tk := ⟨false, (k : Int).tmod 2, k, gtV k, gtN k, k + 1, true, decide (k < i)⟩
def gtT (i n : Nat) : List Tk := (List.range n).map (gtK i)
theorem gtT_len (i n : Nat) : (gtT i n).length = n := by simp [gtT]
theorem gtT_succ (n : Nat) : gtT 0 (n + 1) = gtT 0 n ++ [gtK 0 n] := by simp [gtT, List.range_succ]
theorem gtT_all (i n : Nat) : ∀ t ∈ gtT i n, t.done = true ∧ t.wr = false := by
  intro t ht
  obtain ⟨k, _, rfl⟩ := List.mem_map.1 ht
  exact ⟨rfl, rfl⟩
theorem gtV_r {k : Nat} : 0 ≤ gtV k ∧ gtV k < 50 := pk_bounds k 50 (by decide)
theorem gtN_r {k : Nat} : 0 ≤ gtN k ∧ gtN k < 4 := pk_bounds k 4 (by decide)
theorem two_r {k : Nat} : 0 ≤ (k : Int).tmod 2 ∧ (k : Int).tmod 2 < 2 := ⟨Int.tmod_nonneg _ (by omega), Int.tmod_lt_of_pos _ (by omega)⟩
variable {S : Int}
theorem gt_badL {k : Nat} (n : Int) : ¬ badL (hd2 S 1 0) ⟨2, n, (k : Int).tmod 2, k, 0⟩ := by
  have h2 := two_r (k := k)
  rintro ⟨_, h⟩
  have hl : (hd2 S 1 0).ls.length = 2 := rfl
  rw [hl] at h
  rcases h with h | h | h
  · simp only at h; omega
  · simp only at h; omega
  · have : (k : Int).tmod 2 = 0 ∨ (k : Int).tmod 2 = 1 := by omega
    rcases this with e | e
    · simp only [e] at h; revert h; exact (by decide : ¬ above (lbAt ⟨0, ls2, 3, 1, 0⟩ 1) (lbAt ⟨0, ls2, 3, 1, 0⟩ 0) = false)
    · simp only [e] at h; revert h; exact (by decide : ¬ above (lbAt ⟨0, ls2, 3, 1, 0⟩ 1) (lbAt ⟨0, ls2, 3, 1, 0⟩ 1) = false)
def gtX (k : Nat) : Cl := ⟨2, 1, (k : Int).tmod 2, k, 0⟩
def gtM (S : Int) (k : Nat) : Ms := ⟨1, 0, (k : Int).tmod S, 0, 1, (k : Int).tmod 2, k, 0, 0, k + 1, false, 0⟩
theorem gt_step (hS : 1 ≤ S ∧ S ≤ 4) {i : Nat} (hi : i < 5) (hd : DkO (hd2 S 1 0) (2, [oneJ (gtT 0 i)])) :
    ∃ js, callT (hd2 S 1 0) 2 [oneJ (gtT 0 i)] 6000 (gtX i) = (⟨2, 0, 0, js, [msgC (gtM S i)], [], []⟩, 0)
      ∧ backT (hd2 S 1 0) (2, js) (gtM S i) ⟨0, i, 0, 0, i, 0⟩ = (2, [oneJ (gtT 0 (i + 1))])
      ∧ DkO (hd2 S 1 0) (2, js) ∧ DkO (hd2 S 1 0) (2, [oneJ (gtT 0 (i + 1))]) := by
  have hl := gtT_len 0 i
  have h2 := two_r (k := i)
  have hv := gtV_r (k := i)
  have hn := gtN_r (k := i)
  have hc := one_call hS (l := 1) (by omega) hd (fun t ht => (gtT_all 0 i t ht).1) (by rw [hl]; omega) (x := gtX i) (Or.inl rfl) rfl
    (by simp only [badR, gtX]; omega) (gt_badL 1)
  rw [if_pos (show (gtX i).kind = 2 from rfl), tsk_one] at hc
  have ht1 : 0 ≤ (i : Int).tmod S := Int.tmod_nonneg _ (by omega)
  have ht2 : (i : Int).tmod S < S := Int.tmod_lt_of_pos _ (by omega)
  have hdc := dkO_keepC (okHd_2 hS (l := 1) (me := 0) (by omega) (by omega)) hd 6000 (gtX i)
  rw [hc] at hdc
  have hdj := hdc rfl
  simp only [gtX, hl] at hc hdj
  refine ⟨_, hc, ?_, hdj, ?_⟩
  all_goals
    have hm : chkM S ls2 3 ⟨5, (i : Int).tmod S, 0, 0, 1, (i : Int).tmod 2, i, gtV i, gtN i, i + 1, false, 0⟩ = 0 := by
      refine chk_ok hS (by simp only; omega) ?_ (by simp [okForm, pt, parts])
      simp only [okRange, okTxn, okKey, okVal, okAsk, okCode, Bool.and_eq_true, decide_eq_true_eq]
      exact ⟨ht1, ht2, by omega, by omega, ⟨⟨⟨by omega, by omega⟩, by omega⟩, by omega⟩, by omega, by omega, ⟨by omega, by omega⟩, ⟨by omega, by omega⟩, by omega, by omega, ⟨by omega, by omega⟩, by simp⟩
    have hdj' : DkO (hd2 S 1 0) (2, [⟨1, 1, gtT 0 i ++ [nextT (gtT 0 i) ⟨false, (i : Int).tmod 2, i, 0, 0, 0, false, false⟩], [], ((gtT 0 i).length : Int) + 1, 0⟩]) := by rw [hl]; exact hdj
    obtain ⟨rp, ha⟩ := one_answer hS (l := 1) (by omega) (t := ⟨false, (i : Int).tmod 2, i, 0, 0, 0, false, false⟩) hdj' rfl hm rfl rfl rfl rfl (by rw [hl]) rfl (fun _ => rfl) rfl rfl
    have hnn : oneJ (gtT 0 i ++ [⟨false, (i : Int).tmod 2, i, gtV i, gtN i, (gtT 0 i).length + 1, true, false⟩]) = oneJ (gtT 0 (i + 1)) := by
      rw [hl, gtT_succ]; simp [gtK]
    simp only [Bool.false_eq_true, if_false] at ha
    rw [hnn] at ha
  · have hbm : backM (hd2 S 1 0).me (gtM S i) ⟨0, i, 0, 0, i, 0⟩ = ⟨5, (i : Int).tmod S, 0, 0, 1, (i : Int).tmod 2, i, gtV i, gtN i, i + 1, false, 0⟩ := rfl
    unfold backT keepD
    rw [hbm]
    rw [hl] at ha
    simp only [ha, if_true]
  · have hk2 := hear_dk (h := hd2 S 1 0) (check_two hS) hdj' _ (by rw [ha])
    rw [ha] at hk2
    exact hk2
theorem gt_dk (hS : 1 ≤ S ∧ S ≤ 4) : ∀ i, i ≤ 5 → DkO (hd2 S 1 0) (2, [oneJ (gtT 0 i)])
  | 0, _ => by
    have h := dkO_keepC (okHd_2 hS (l := 1) (me := 0) (by omega) (by omega)) (dkO_0 (hd2 S 1 0)) 6000 ⟨1, 0, 0, 0, 0⟩
    rw [one_begin hS (by omega)] at h
    exact h rfl
  | i + 1, hi => by
    obtain ⟨js, _, _, _, h⟩ := gt_step hS (by omega : i < 5) (gt_dk hS i (by omega))
    exact h
/-- It waits for answers; the first i were yes. -/
def chJ (i n : Nat) : Jb := ⟨1, 2, gtT i n, [], n, 0⟩
def chM (S : Int) (k : Nat) : Ms := ⟨3, 0, (k : Int).tmod S, 0, 1, (k : Int).tmod 2, k, 0, gtN k, 0, false, 0⟩
theorem gt_commit (hS : 1 ≤ S ∧ S ≤ 4) {n : Nat} (hn : 1 ≤ n ∧ n ≤ 5) : callT (hd2 S 1 0) 2 [oneJ (gtT 0 n)] 6000 ⟨4, 1, 0, 0, 0⟩ = (⟨2, 1, 0, [chJ 0 n], (List.range n).map (fun k => msgC (chM S k)), [], []⟩, 0) := by
  have hd := gt_dk hS n hn.2
  have hb := beg2 hS (l := 1) (me := 0) (by omega) (by omega) hd
  have hall := gtT_all 0 n
  have hp : placeJ [oneJ (gtT 0 n)] 1 = (0 : Nat) := one_place _ rfl
  have hj : jAt [oneJ (gtT 0 n)] 0 = oneJ (gtT 0 n) := rfl
  have e0 : ((0 : Nat) : Int).toNat = 0 := rfl
  have hr0 : refE (hd2 S 1 0) [oneJ (gtT 0 n)] ⟨4, 1, 0, 0, 0⟩ = 0 := by
    unfold refE refP
    rw [hp, if_neg (by decide), e0, hj]
    unfold refJ
    rw [if_pos (show (oneJ (gtT 0 n)).state = 1 from rfl), if_neg (one_waits fun t ht => (hall t ht).1), if_neg (by simp only; omega)]
  have hwj : (wdN 2 [oneJ (gtT 0 n)]).js = [oneJ (gtT 0 n)] := rfl
  have hag1 : ∀ t ∈ gtT 0 n, agnB t = true := by
    intro t ht
    obtain ⟨k, _, rfl⟩ := List.mem_map.1 ht
    simp [agnB, gtK]
  have hag : (oneJ (gtT 0 n)).tasks.any agnB = true := by
    rw [List.any_eq_true]
    have h0 : 0 < (gtT 0 n).length := by rw [gtT_len]; omega
    exact ⟨_, List.getElem_mem h0, hag1 _ (List.getElem_mem h0)⟩
  have hfl : (gtT 0 n).filter agnB = gtT 0 n := List.filter_eq_self.2 hag1
  have hmm : agnM (hd2 S 1 0) (oneJ (gtT 0 n)) = (List.range n).map (fun k => msgC (chM S k)) := by
    show ((gtT 0 n).filter agnB).map _ = _
    rw [hfl, gtT, List.map_map]; rfl
  rw [callT_ok 6000 hb (by simp only; omega), callW, if_neg (by simp only; omega), hwj, if_pos hr0, hp, e0]
  unfold callP
  rw [if_neg (by simp only; omega), if_neg (by simp only; omega), if_pos rfl]
  unfold cgW
  rw [hwj, hj, if_pos hag, hmm]
  have hl := gtT_len 0 n
  simp only [wdN, oneJ, chJ, hl]
  rfl
def suM (S : Int) (k : Nat) (y : Bool) : Ms := ⟨7, (k : Int).tmod S, 0, 0, 1, (k : Int).tmod 2, k, 0, gtN k, 0, y, 0⟩
theorem surB_gt (S : Int) (i j k : Nat) (y : Bool) : surB (suM S i y) (gtK j k) = decide (k = i) := by
  by_cases e : k = i
  · subst e; simp [surB, suM, gtK]
  · have : ¬ (k : Int) = i := by omega
    simp [surB, suM, gtK, this, e]
theorem sur_gt (S : Int) (i n : Nat) : (gtT i n).map (surT (suM S i true)) = gtT (i + 1) n := by
  rw [gtT, gtT, List.map_map]
  apply List.map_congr_left
  intro k _
  simp only [Function.comp, surT, surB_gt]
  by_cases e : k = i
  · subst e; simp [gtK, suM]
  · have : decide (k < i) = decide (k < i + 1) := by rw [decide_eq_decide]; omega
    simp [gtK, e, this]
theorem any_gt (S : Int) {i j n : Nat} (h : i < n) (y : Bool) : (gtT j n).any (surB (suM S i y)) = true := by
  rw [List.any_eq_true]
  refine ⟨gtK j i, List.mem_map.2 ⟨i, List.mem_range.2 h, rfl⟩, ?_⟩
  rw [surB_gt]; simp
theorem left_gt {i n : Nat} : (gtT i n).any agnB = decide (i < n) := by
  rw [Bool.eq_iff_iff, List.any_eq_true, decide_eq_true_eq]
  constructor
  · rintro ⟨t, ht, h⟩
    obtain ⟨k, hk, rfl⟩ := List.mem_map.1 ht
    have := List.mem_range.1 hk
    simp [agnB, gtK] at h
    omega
  · intro h
    exact ⟨gtK i i, List.mem_map.2 ⟨i, List.mem_range.2 h, rfl⟩, by simp [agnB, gtK]⟩
theorem su_chk (hS : 1 ≤ S ∧ S ≤ 4) {k : Nat} (hk : k < 5) (y : Bool) : chkM S ls2 3 (suM S k y) = 0 := by
  have h2 := two_r (k := k)
  have hn := gtN_r (k := k)
  have ht1 : 0 ≤ (k : Int).tmod S := Int.tmod_nonneg _ (by omega)
  have ht2 : (k : Int).tmod S < S := Int.tmod_lt_of_pos _ (by omega)
  show chkM S ls2 3 ⟨7, (k : Int).tmod S, 0, 0, 1, (k : Int).tmod 2, k, 0, gtN k, 0, y, 0⟩ = 0
  refine chk_ok hS (by simp only; omega) ?_ (by simp [okForm, pt, parts])
  simp only [okRange, okTxn, okKey, okVal, okAsk, okCode, Bool.and_eq_true, decide_eq_true_eq]
  exact ⟨ht1, ht2, by omega, by omega, ⟨⟨⟨by omega, by omega⟩, by omega⟩, by omega⟩, by omega, by omega, ⟨by omega, by omega⟩, ⟨by omega, by omega⟩, by omega, by omega, ⟨by omega, by omega⟩, by simp⟩
/-- An answer: no; yes, and others are awaited; yes, and that was the last. -/
theorem su_step (hS : 1 ≤ S ∧ S ≤ 4) {i n : Nat} (hi : i < n) (hn : n ≤ 5) (hd : DkO (hd2 S 1 0) (2, [chJ i n])) (y : Bool) :
    ∃ (su co : Int) (js : List Jb) (ms rs rp : List (List D)), hearT (hd2 S 1 0) 2 [chJ i n] (suM S i y) = (⟨2, su, co, js, ms, rs, rp⟩, 0) ∧ DkO (hd2 S 1 0) (2, js)
      ∧ (y = false → rp = [rpC ⟨0, 4, 1, 0, 0, 11⟩] ∧ co = 0)
      ∧ (y = true → i + 1 < n → rp = [] ∧ js = [chJ (i + 1) n])
      ∧ (y = true → i + 1 = n → rp = [rpC ⟨0, 4, 1, 0, 0, 0⟩] ∧ co = 1) := by
  have hb := beg2 hS (l := 1) (me := 0) (by omega) (by omega) hd
  have hm := su_chk hS (by omega : i < 5) y
  have hp : placeJ [chJ i n] 1 = (0 : Nat) := one_place _ rfl
  have e0 : ((0 : Nat) : Int).toNat = 0 := rfl
  have hdk := hear_dk (h := hd2 S 1 0) (check_two hS) hd (suM S i y)
  have hT := hearT_ok hb hm rfl rfl (by simp only [suM]; omega)
  rw [hT] at hdk ⊢
  have hdk2 := hdk rfl
  have hnx : (hearW (hd2 S 1 0) (wdN 2 [chJ i n]) (suM S i y) (placeJ [chJ i n] (suM S i y).n)).next = 2 := hear_next ..
  have hpn : placeJ [chJ i n] (suM S i y).n = (0 : Nat) := hp
  rw [hpn] at hnx hdk2 ⊢
  have hW : hearW (hd2 S 1 0) (wdN 2 [chJ i n]) (suM S i y) ((0 : Nat) : Int) = sureW (hd2 S 1 0) (wdN 2 [chJ i n]) 0 (chJ i n) (suM S i y) := by
    unfold hearW
    rw [if_neg (by simp only [suM]; omega), if_neg (by decide), e0]
    unfold hearP
    rw [if_neg (by simp only [suM]; omega), if_neg (by simp only [suM]; omega), if_pos (show (suM S i y).kind = 7 from rfl)]
    rfl
  rw [hW] at hnx hdk2 ⊢
  simp only [hnx] at hdk2
  have hsu : sureW (hd2 S 1 0) (wdN 2 [chJ i n]) 0 (chJ i n) (suM S i y) = (if y = true then (if (surJ (chJ i n) (suM S i y)).tasks.any agnB = true then ⟨2, 0, 0, [surJ (chJ i n) (suM S i y)], [], [], []⟩ else comW (hd2 S 1 0) ⟨2, 0, 0, [surJ (chJ i n) (suM S i y)], [], [], []⟩ 0) else endW (hd2 S 1 0) ⟨2, 0, 0, [surJ (chJ i n) (suM S i y)], [], [], [rpC ⟨0, 4, 1, 0, 0, 11⟩]⟩ 0) := by
    unfold sureW
    rw [if_pos ⟨rfl, rfl⟩, if_pos (show (chJ i n).tasks.any (surB (suM S i y)) = true from any_gt S hi y)]
    rfl
  suffices hfin : ∃ w : Wd, sureW (hd2 S 1 0) (wdN 2 [chJ i n]) 0 (chJ i n) (suM S i y) = w ∧ ((y = false → w.rp = [rpC ⟨0, 4, 1, 0, 0, 11⟩] ∧ w.co = 0) ∧ (y = true → i + 1 < n → w.rp = [] ∧ w.js = [chJ (i + 1) n]) ∧ (y = true → i + 1 = n → w.rp = [rpC ⟨0, 4, 1, 0, 0, 0⟩] ∧ w.co = 1)) by
    obtain ⟨w, e, h⟩ := hfin
    rw [e] at hnx hdk2 ⊢
    obtain ⟨w1, w2, w3, w4, w5', w6, w7'⟩ := w
    simp only at hnx hdk2 h
    subst hnx
    exact ⟨_, _, _, _, _, _, rfl, hdk2, h.1, h.2.1, h.2.2⟩
  cases y
  · simp only [Bool.false_eq_true, if_false] at hsu
    exact ⟨_, hsu, fun _ => ⟨rfl, rfl⟩, fun h => absurd h (by decide), fun h => absurd h (by decide)⟩
  · simp only [if_true] at hsu
    have hts : (surJ (chJ i n) (suM S i true)).tasks = gtT (i + 1) n := sur_gt S i n
    rw [hts, left_gt] at hsu
    by_cases hl : i + 1 < n
    · rw [if_pos (decide_eq_true hl)] at hsu
      have hj : surJ (chJ i n) (suM S i true) = chJ (i + 1) n := by
        simp only [surJ, chJ, sur_gt]
      exact ⟨_, hsu, fun h => absurd h (by decide), fun _ _ => ⟨rfl, by rw [hj]⟩, fun _ h => by omega⟩
    · rw [if_neg (by simpa using hl)] at hsu
      exact ⟨_, hsu, fun h => absurd h (by decide), fun _ h => absurd h hl, fun _ _ => ⟨rfl, rfl⟩⟩
theorem ch_dk (hS : 1 ≤ S ∧ S ≤ 4) {n : Nat} (hn : 1 ≤ n ∧ n ≤ 5) : ∀ i, i < n → DkO (hd2 S 1 0) (2, [chJ i n])
  | 0, _ => by
    have h := dkO_keepC (okHd_2 hS (l := 1) (me := 0) (by omega) (by omega)) (gt_dk hS n hn.2) 6000 ⟨4, 1, 0, 0, 0⟩
    rw [gt_commit hS hn] at h
    exact h rfl
  | i + 1, hi => by
    obtain ⟨su, co, js, ms, rs, rp, _, hd, _, h2, _⟩ := su_step hS (by omega : i < n) hn.2 (ch_dk hS hn i (by omega)) true
    obtain ⟨_, e⟩ := h2 rfl hi
    rw [e] at hd
    exact hd
end Go.Proofs.YtchbnpjegacobaaDoor
