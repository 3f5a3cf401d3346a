/-
  Configs that are made of raw numbers are good. No conditions.
-/
import Derived.Test.YtgioabhamihfmaaGreatDoorCfg
set_option linter.unusedVariables false
set_option linter.unusedSimpArgs false
namespace Go.Proofs.YtgioabhamihfmaaGreatDoor
open Go Go.Vcg

theorem chkL_append : ∀ (a b pre : List (Int × Int)), chkL pre (a ++ b) = if chkL pre a = 0 then chkL (pre ++ a) b else chkL pre a
  | [], b, pre => by simp [chkL]
  | l :: a, b, pre => by
    rw [List.cons_append, chkL, chkL]
    by_cases h1 : one l = false
    · simp [h1]
    · by_cases h2 : l ∈ pre
      · simp [h1, h2]
      · rw [if_neg h1, if_neg h1, if_neg h2, if_neg h2, chkL_append a b (pre ++ [l])]
        simp

theorem chkL_zero : ∀ (a pre : List (Int × Int)), (∀ l ∈ a, one l = true) → (pre ++ a).Nodup → chkL pre a = 0
  | [], pre, _, _ => by simp [chkL]
  | l :: a, pre, h, hn => by
    have h1 := h l (by simp)
    have hn' : (pre ++ [l] ++ a).Nodup := by simpa using hn
    have h2 : l ∉ pre := by
      rw [List.nodup_append] at hn
      intro q
      exact hn.2.2 l q l (by simp) rfl
    rw [chkL, if_neg (by simp [h1]), if_neg h2]
    exact chkL_zero a (pre ++ [l]) (fun x hx => h x (by simp [hx])) hn'

theorem one_lcases : ∀ l ∈ lcases, one l = true := by decide

theorem cfgL_good : ∀ (ns : List Int) (acc : List (Int × Int)), acc.Nodup → (∀ l ∈ acc, l ∈ lcases) → acc.length ≤ 4 → (cfgL ns acc).Nodup ∧ (∀ l ∈ cfgL ns acc, l ∈ lcases) ∧ (cfgL ns acc).length ≤ 4
  | [], acc, h1, h2, h3 => by rw [cfgL]; exact ⟨h1, h2, h3⟩
  | n :: r, acc, h1, h2, h3 => by
    rw [cfgL]
    split
    · rename_i hlt
      split
      · exact cfgL_good r acc h1 h2 h3
      · rename_i hm
        refine cfgL_good r _ ?_ ?_ (by simp; omega)
        · rw [List.nodup_append]
          exact ⟨h1, by simp, fun x hx y hy => by simp at hy; subst hy; intro e; exact hm (e ▸ hx)⟩
        · intro l hl
          rcases List.mem_append.1 hl with hl | hl
          · exact h2 l hl
          · simp at hl; subst hl; exact lab_mem n
    · exact ⟨h1, h2, h3⟩

theorem cfgLs_good (ns : List Int) : (cfgLs ns).Nodup ∧ (∀ l ∈ cfgLs ns, l ∈ lcases) ∧ 1 ≤ (cfgLs ns).length ∧ (cfgLs ns).length ≤ 4 := by
  have h := cfgL_good ns [] (by simp) (by simp) (by simp)
  rw [cfgLs]
  split
  · exact ⟨by simp, by simp [lcases], by simp, by simp⟩
  · rename_i hne
    exact ⟨h.1, h.2.1, List.length_pos_iff.2 hne, h.2.2⟩

theorem check_config (s p : Int) (ns : List Int) (hs : 0 ≤ s ∧ s < 3) (hp : 0 ≤ p ∧ p < 4) : check (1 + s) (cfgLs ns) (1 + p) = 0 := by
  have h := cfgLs_good ns
  have hz := chkL_zero (cfgLs ns) [] (fun l hl => one_lcases l (h.2.1 l hl)) (by simpa using h.1)
  rw [check, if_neg (by omega), if_neg (by omega), if_pos hz, if_neg (by omega)]

theorem check_twice (s p : Int) (ns : List Int) (l : Int × Int) (hl : l ∈ cfgLs ns) (hs : 0 ≤ s ∧ s < 3) : check (1 + s) (cfgLs ns ++ [l]) p = 7 := by
  have h := cfgLs_good ns
  have hz := chkL_zero (cfgLs ns) [] (fun l hl => one_lcases l (h.2.1 l hl)) (by simpa using h.1)
  have h7 : chkL [] (cfgLs ns ++ [l]) = 7 := by
    rw [chkL_append, if_pos hz, chkL, if_neg (by simp [one_lcases l (h.2.1 l hl)]), if_pos (by simpa using hl)]
  rw [check, if_neg (by omega), if_neg (by simp; omega), if_neg (by rw [h7]; decide), h7]

end Go.Proofs.YtgioabhamihfmaaGreatDoor
