/-
  What is typed is read as it is meant, and what is no command is refused: plain lists, no program. Conditions: those that each theorem names.
-/
import Derived.Test.YtgmegekboglgdaaDoorCs2
set_option linter.unusedVariables false
set_option linter.unusedSimpArgs false
namespace Go.Proofs.YtgmegekboglgdaaDoor
open Go Go.Vcg

theorem dd_lenk : ∀ (k u : Nat), u < 10 ^ (k + 1) → (Lib.decDigits u).length ≤ k + 1
  | 0, u, h => by rw [dd_lt (by simpa using h)]; simp
  | k + 1, u, h => by
    by_cases h1 : u < 10
    · rw [dd_lt h1]; simp
    · rw [dd_ge h1]
      have := dd_lenk k (u / 10) (by rw [Nat.div_lt_iff_lt_mul (by omega)]; rw [Nat.pow_succ] at h; exact h)
      simp only [List.length_append, List.length_cons, List.length_nil]; omega
theorem numOk_dd {u : Nat} {m : Int} (h1 : u ≤ 9223372036854775807) (h2 : (u : Int) ≤ m) : numOk m (Lib.decDigits u) = some (u : Int) := by
  have ha := atoi_dd h1
  have e1 : atoiOk (Lib.decDigits u) = true := by unfold atoiOk; rw [ha]
  have e2 : atoiV (Lib.decDigits u) = u := by unfold atoiV; rw [ha]
  unfold numOk
  rw [e1, e2, if_pos ⟨rfl, itoa_nat u, by omega, h2⟩]
theorem numW_dd {u : Nat} {m : Int} (h1 : u ≤ 9223372036854775807) (h2 : (u : Int) ≤ m) (ws : List (List UInt8)) (b : Bool) : numW m (Lib.decDigits u :: ws) b = ((u : Int), ws, b) := by
  unfold numW
  simp only [nxtW]
  rw [numOk_dd h1 h2]
theorem num3_dd {l s n : Nat} (hl : l < 6) (hs : s < 4) (hn : n ≤ 1048576) (ws : List (List UInt8)) (b : Bool) : num3 (Lib.decDigits l :: Lib.decDigits s :: Lib.decDigits n :: ws) b = ((l : Int), (s : Int), (n : Int), ws, b) := by
  unfold num3
  rw [numW_dd (by omega) (by omega)]
  simp only
  rw [numW_dd (by omega) (by omega)]
  simp only
  rw [numW_dd (by omega) (by omega)]
/-- The three numbers behind a word. -/
def txt3 (l s n : Nat) (r : List UInt8) : List UInt8 := Lib.decDigits l ++ 32 :: (Lib.decDigits s ++ 32 :: (Lib.decDigits n ++ r))
theorem split3 (l s n : Nat) (r : List UInt8) : Lib.split (txt3 l s n (32 :: r)) [32] = Lib.decDigits l :: Lib.decDigits s :: Lib.decDigits n :: Lib.split r [32] := by
  unfold txt3
  rw [split_word _ dd_blank, split_word _ dd_blank, split_word _ dd_blank]
theorem split3' (l s n : Nat) : Lib.split (txt3 l s n []) [32] = [Lib.decDigits l, Lib.decDigits s, Lib.decDigits n] := by
  unfold txt3
  rw [split_word _ dd_blank, split_word _ dd_blank, List.append_nil, split_last dd_blank]
theorem txt3_len {l s n : Nat} (hl : l < 6) (hs : s < 4) (hn : n ≤ 1048576) (r : List UInt8) : (txt3 l s n r).length ≤ 11 + r.length := by
  unfold txt3
  have h1 := dd_lenk 0 l (by omega)
  have h2 := dd_lenk 0 s (by omega)
  have h3 := dd_lenk 6 n (by omega)
  simp only [List.length_append, List.length_cons]
  omega
theorem readT_eq {s w : List UInt8} {ws : List (List UInt8)} (hl : s.length ≤ 60) (hs : Lib.split s [32] = w :: ws) : readT s = cmdT w ws false := by
  unfold readT
  rw [if_neg (by omega), hs]
  rfl
theorem b_force : (32 : UInt8) ∉ wForce := by decide
theorem b_status : (32 : UInt8) ∉ wStatus := by decide
theorem read_force {l s n : Nat} (hl : l < 6) (hs : s < 4) (hn : n ≤ 1048576) {y : List UInt8} (hy : y = wCommit ∨ y = wAbort) :
    readT (wForce ++ 32 :: txt3 l s n (32 :: y)) = (⟨3, l, s, n, decide (y = wCommit)⟩, 0) ∧ readT (wForce ++ 32 :: txt3 l s n (32 :: (y ++ [32]))) = (cm0, 4) := by
  have hb : (32 : UInt8) ∉ y := by rcases hy with rfl | rfl <;> decide
  have hyl : y.length ≤ 6 := by rcases hy with rfl | rfl <;> decide
  have hf : wForce.length = 5 := rfl
  have h1 := txt3_len hl hs hn (32 :: y)
  have h2 := txt3_len hl hs hn (32 :: (y ++ [32]))
  simp only [List.length_append, List.length_cons, List.length_nil] at h1 h2
  have n1 : ¬ wForce = wList := by decide
  have n2 : ¬ wForce = wAudit := by decide
  have n3 : ¬ wForce = wStatus := by decide
  constructor
  · rw [readT_eq (w := wForce) (ws := [Lib.decDigits l, Lib.decDigits s, Lib.decDigits n, y]) (by simp only [List.length_append, List.length_cons]; omega) (by rw [split_word _ b_force, split3, split_last hb])]
    unfold cmdT
    rw [if_neg n1, if_neg n2, if_neg n3, if_pos rfl, num3_dd hl hs hn]
    simp only [nxtW]
    have hyb : yesB y false = false := by rcases hy with rfl | rfl <;> decide
    unfold finT
    rw [hyb, if_neg (by simp)]
    rfl
  · rw [readT_eq (w := wForce) (ws := [Lib.decDigits l, Lib.decDigits s, Lib.decDigits n, y, []]) (by simp only [List.length_append, List.length_cons, List.length_nil]; omega) (by rw [split_word _ b_force, split3, split_word _ hb]; rfl)]
    unfold cmdT
    rw [if_neg n1, if_neg n2, if_neg n3, if_pos rfl, num3_dd hl hs hn]
    simp only [nxtW]
    unfold finT
    rw [if_pos (Or.inr (by simp))]
theorem read_status {l s n : Nat} (hl : l < 6) (hs : s < 4) (hn : n ≤ 1048576) :
    readT (wStatus ++ 32 :: txt3 l s n []) = (⟨2, l, s, n, false⟩, 0) ∧ readT (wStatus ++ 32 :: txt3 l s n [32]) = (cm0, 4) := by
  have hf : wStatus.length = 6 := rfl
  have h1 := txt3_len hl hs hn []
  have h2 := txt3_len hl hs hn [32]
  simp only [List.length_cons, List.length_nil] at h1 h2
  have n1 : ¬ wStatus = wList := by decide
  have n2 : ¬ wStatus = wAudit := by decide
  constructor
  · rw [readT_eq (w := wStatus) (ws := [Lib.decDigits l, Lib.decDigits s, Lib.decDigits n]) (by simp only [List.length_append, List.length_cons]; omega) (by rw [split_word _ b_status, split3'])]
    unfold cmdT
    rw [if_neg n1, if_neg n2, if_pos rfl, num3_dd hl hs hn]
    unfold finT
    rw [if_neg (by simp)]
  · rw [readT_eq (w := wStatus) (ws := [Lib.decDigits l, Lib.decDigits s, Lib.decDigits n, []]) (by simp only [List.length_append, List.length_cons]; omega) (by rw [split_word _ b_status, split3]; rfl)]
    unfold cmdT
    rw [if_neg n1, if_neg n2, if_pos rfl, num3_dd hl hs hn]
    unfold finT
    rw [if_pos (Or.inr (by simp))]
theorem read_list : readT wList = (⟨1, 0, 0, 0, false⟩, 0) ∧ readT (wList ++ [32]) = (cm0, 4) := by
  constructor
  · rw [readT_eq (w := wList) (ws := []) (by decide) (split_last (by decide))]; rfl
  · rw [readT_eq (w := wList) (ws := [[]]) (by decide) (split_word [] (by decide))]; rfl
theorem read_audit : readT wAudit = (⟨4, 0, 0, 0, false⟩, 0) ∧ readT (wAudit ++ [32]) = (cm0, 4) := by
  constructor
  · rw [readT_eq (w := wAudit) (ws := []) (by decide) (split_last (by decide))]; rfl
  · rw [readT_eq (w := wAudit) (ws := [[]]) (by decide) (split_word [] (by decide))]; rfl

/-! ### What is no command -/
theorem ok_of {m : Int} {s : List UInt8} {v : Int} (h : Lib.atoiAll s = .ok v) : numOk m s = if Lib.itoa v = s ∧ 0 ≤ v ∧ v ≤ m then some v else none := by
  have e1 : atoiOk s = true := by unfold atoiOk; rw [h]
  have e2 : atoiV s = v := by unfold atoiV; rw [h]
  unfold numOk
  rw [e1, e2]
  simp
theorem numOk_none {m : Int} {s : List UInt8} (h : atoiOk s = false) : numOk m s = none := by unfold numOk; rw [h]; simp
def oddS : List (List UInt8) := [[], [76, 105, 115, 116], [108, 105, 115, 116, 32, 49], [115, 116, 97, 116, 117, 115], [115, 116, 97, 116, 117, 115, 32, 48, 32, 48], [115, 116, 97, 116, 117, 115, 32, 48, 32, 48, 32, 45, 49], [115, 116, 97, 116, 117, 115, 32, 48, 32, 48, 32, 48, 49], [115, 116, 97, 116, 117, 115, 32, 54, 32, 48, 32, 49], [115, 116, 97, 116, 117, 115, 32, 48, 32, 52, 32, 49], [115, 116, 97, 116, 117, 115, 32, 48, 32, 48, 32, 49, 48, 52, 56, 53, 55, 55], [102, 111, 114, 99, 101, 32, 48, 32, 48, 32, 49], [102, 111, 114, 99, 101, 32, 48, 32, 48, 32, 49, 32, 109, 97, 121, 98, 101], [102, 111, 114, 99, 101, 32, 48, 32, 48, 32, 49, 32, 32, 99, 111, 109, 109, 105, 116], [97, 117, 100, 105, 116, 10]]
theorem q0 {m : Int} (h : 0 ≤ m) : numOk m [48] = some 0 := by
  have := numOk_dd (u := 0) (m := m) (by omega) h
  rw [dd_lt (by omega)] at this; exact this
theorem q1 {m : Int} (h : 1 ≤ m) : numOk m [49] = some 1 := by
  have := numOk_dd (u := 1) (m := m) (by omega) h
  rw [dd_lt (by omega)] at this; exact this
theorem qe {m : Int} : numOk m [] = none := numOk_none (by decide)
theorem qm {m : Int} : numOk m [45, 49] = none := by
  rw [ok_of (v := -1) (by decide), if_neg (by omega)]
theorem qz {m : Int} : numOk m [48, 49] = none := by
  rw [ok_of (v := 1) (by decide), if_neg]
  rintro ⟨h, _⟩
  have e : Lib.itoa 1 = Lib.decDigits 1 := itoa_nat 1
  rw [e, dd_lt (by omega)] at h
  revert h; decide
theorem q6 : numOk 5 [54] = none := by rw [ok_of (v := 6) (by decide), if_neg (by omega)]
theorem q4 : numOk 3 [52] = none := by rw [ok_of (v := 4) (by decide), if_neg (by omega)]
theorem qb : numOk 1048576 [49, 48, 52, 56, 53, 55, 55] = none := by rw [ok_of (v := 1048577) (by decide), if_neg (by omega)]
theorem numW_none {m : Int} {ws : List (List UInt8)} {b : Bool} (h : numOk m (nxtW ws b).1 = none) : numW m ws b = (0, (nxtW ws b).2.1, true) := by unfold numW; rw [h]
theorem fin_bad (x : Cm) (ws : List (List UInt8)) : finT x ws true = (cm0, 4) := by unfold finT; rw [if_pos (Or.inl rfl)]
theorem fin_rest (x : Cm) (w : List UInt8) (ws : List (List UInt8)) (b : Bool) : finT x (w :: ws) b = (cm0, 4) := by unfold finT; rw [if_pos (Or.inr (by simp))]
theorem nxtW_true (ws : List (List UInt8)) : (nxtW ws true).2.2 = true := by cases ws <;> rfl
theorem numW_true (m : Int) (ws : List (List UInt8)) : (numW m ws true).2.2 = true := by
  unfold numW
  split
  · exact nxtW_true ws
  · rfl
theorem yesB_true (w : List UInt8) : yesB w true = true := rfl
theorem odd_read : ∀ s ∈ oddS, readT s = (cm0, 4) := by
  intro s hs
  unfold oddS at hs
  have n1 : ¬ wStatus = wList := by decide
  have n2 : ¬ wStatus = wAudit := by decide
  have n3 : ¬ wForce = wList := by decide
  have n4 : ¬ wForce = wAudit := by decide
  have n5 : ¬ wForce = wStatus := by decide
  have st : ∀ ws b, cmdT wStatus ws b = finT ⟨2, (num3 ws b).1, (num3 ws b).2.1, (num3 ws b).2.2.1, false⟩ (num3 ws b).2.2.2.1 (num3 ws b).2.2.2.2 := fun ws b => by unfold cmdT; rw [if_neg n1, if_neg n2, if_pos rfl]
  have stb : ∀ ws b, (num3 ws b).2.2.2.2 = true → cmdT wStatus ws b = (cm0, 4) := fun ws b h => by rw [st, h, fin_bad]
  have fo : ∀ ws b, cmdT wForce ws b = finT ⟨3, (num3 ws b).1, (num3 ws b).2.1, (num3 ws b).2.2.1, decide ((nxtW (num3 ws b).2.2.2.1 (num3 ws b).2.2.2.2).1 = wCommit)⟩ (nxtW (num3 ws b).2.2.2.1 (num3 ws b).2.2.2.2).2.1 (yesB (nxtW (num3 ws b).2.2.2.1 (num3 ws b).2.2.2.2).1 (nxtW (num3 ws b).2.2.2.1 (num3 ws b).2.2.2.2).2.2) := fun ws b => by unfold cmdT; rw [if_neg n3, if_neg n4, if_neg n5, if_pos rfl]
  have m0 : (0 : Int) ≤ 5 := by omega
  have m1 : (0 : Int) ≤ 3 := by omega
  have m2 : (0 : Int) ≤ 1048576 := by omega
  have m3 : (1 : Int) ≤ 1048576 := by omega
  have k0 : ∀ (ws : List (List UInt8)) (b : Bool), numW 5 ([48] :: ws) b = (0, ws, b) := fun ws b => by unfold numW; simp only [nxtW]; rw [q0 m0]
  have k1 : ∀ (ws : List (List UInt8)) (b : Bool), numW 3 ([48] :: ws) b = (0, ws, b) := fun ws b => by unfold numW; simp only [nxtW]; rw [q0 m1]
  have k2 : ∀ (ws : List (List UInt8)) (b : Bool), numW 1048576 ([49] :: ws) b = (1, ws, b) := fun ws b => by unfold numW; simp only [nxtW]; rw [q1 m3]
  have f3 : ∀ ws, num3 ([48] :: [48] :: [49] :: ws) false = (0, 0, 1, ws, false) := fun ws => by unfold num3; rw [k0]; simp only; rw [k1]; simp only; rw [k2]
  simp only [List.mem_cons, List.not_mem_nil, or_false] at hs
  rcases hs with rfl | rfl | rfl | rfl | rfl | rfl | rfl | rfl | rfl | rfl | rfl | rfl | rfl | rfl
  · rw [readT_eq (w := []) (ws := []) (by decide) (split_last (by decide))]; rfl
  · rw [readT_eq (w := [76, 105, 115, 116]) (ws := []) (by decide) (split_last (by decide))]; rfl
  · rw [readT_eq (w := wList) (ws := [[49]]) (by decide) (by decide)]; rfl
  · rw [readT_eq (w := wStatus) (ws := []) (by decide) (by decide), stb]
    unfold num3
    rw [numW_none (m := 5) (ws := []) (b := false) (by exact qe)]
    simp only
    rw [numW_true, numW_true]
  · rw [readT_eq (w := wStatus) (ws := [[48], [48]]) (by decide) (by decide), stb]
    unfold num3
    rw [k0]; simp only; rw [k1]; simp only
    rw [numW_none (m := 1048576) (ws := []) (b := false) (by exact qe)]
  · rw [readT_eq (w := wStatus) (ws := [[48], [48], [45, 49]]) (by decide) (by decide), stb]
    unfold num3
    rw [k0]; simp only; rw [k1]; simp only
    rw [numW_none (m := 1048576) (ws := [[45, 49]]) (b := false) (by exact qm)]
  · rw [readT_eq (w := wStatus) (ws := [[48], [48], [48, 49]]) (by decide) (by decide), stb]
    unfold num3
    rw [k0]; simp only; rw [k1]; simp only
    rw [numW_none (m := 1048576) (ws := [[48, 49]]) (b := false) (by exact qz)]
  · rw [readT_eq (w := wStatus) (ws := [[54], [48], [49]]) (by decide) (by decide), stb]
    unfold num3
    rw [numW_none (m := 5) (ws := [[54], [48], [49]]) (b := false) (by exact q6)]
    simp only
    rw [numW_true, numW_true]
  · rw [readT_eq (w := wStatus) (ws := [[48], [52], [49]]) (by decide) (by decide), stb]
    unfold num3
    rw [k0]; simp only
    rw [numW_none (m := 3) (ws := [[52], [49]]) (b := false) (by exact q4)]
    simp only
    rw [numW_true]
  · rw [readT_eq (w := wStatus) (ws := [[48], [48], [49, 48, 52, 56, 53, 55, 55]]) (by decide) (by decide), stb]
    unfold num3
    rw [k0]; simp only; rw [k1]; simp only
    rw [numW_none (m := 1048576) (ws := [[49, 48, 52, 56, 53, 55, 55]]) (b := false) (by exact qb)]
  · rw [readT_eq (w := wForce) (ws := [[48], [48], [49]]) (by decide) (by decide), fo, f3]
    exact fin_bad _ _
  · rw [readT_eq (w := wForce) (ws := [[48], [48], [49], [109, 97, 121, 98, 101]]) (by decide) (by decide), fo, f3]
    exact fin_bad _ _
  · rw [readT_eq (w := wForce) (ws := [[48], [48], [49], [], wCommit]) (by decide) (by decide), fo, f3]
    exact fin_rest _ _ _ _
  · rw [readT_eq (w := [97, 117, 100, 105, 116, 10]) (ws := []) (by decide) (split_last (by decide))]; rfl
end Go.Proofs.YtgmegekboglgdaaDoor
