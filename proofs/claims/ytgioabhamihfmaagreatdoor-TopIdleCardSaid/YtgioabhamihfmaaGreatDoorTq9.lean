/-
  ActBare answers true on data. Conditions: those of its specification's 'pre', and that the functions that are called are what theirs say.
-/
import Derived.Test.YtgioabhamihfmaaGreatDoorAct8
set_option linter.unusedVariables false
set_option linter.unusedSimpArgs false
namespace Go.Proofs.YtgioabhamihfmaaGreatDoor
open Go Go.Vcg

theorem lchk_F {S P : Int} {ls : List (Int × Int)} (a : Ac) (h : check S ls P = 0) : sp_LCheck.F [.agg [.int .i64 S, .fz 2 (ls.map lbc), .int .i64 P], .agg (actC a)] = .int .i64 (actE S ls.length a) := by
  have e1 : D.agg [.int .i64 S, .fz 2 (ls.map lbc), .int .i64 P] = cfgD S ls P := rfl
  have e2 : actL (actC a) = a := actL_actC a
  rw [e1]
  simp only [sp_LCheck, cfgOf_cfgD, e2, chkA, h]
  simp
theorem lchk_pre {S P : Int} {ls : List (Int × Int)} {a : Ac} (hx : isCfg (cfgD S ls P) = true) (hk : okAc a) : sp_LCheck.pre [.agg [.int .i64 S, .fz 2 (ls.map lbc), .int .i64 P], .agg (actC a)] = True := by
  simp only [sp_LCheck, eq_iff_iff, iff_true]; exact ⟨cfgD S ls P, a, rfl, hx, hk⟩
theorem actE_keep {S : Int} {L : Nat} {a : Ac} (h : actE S L a = 0) (hL : L ≤ 6) : okAc a := by
  have hn : numB S L a := by
    unfold actE at h
    split at h
    · cases h
    · split at h
      · cases h
      · rename_i hh; exact Decidable.not_not.1 hh
  have := hn.2.2.2.2.2.2.2.2.1
  show a.keep.length ≤ 1000000
  omega
theorem length_actsL (f : Bool) (S : Int) (L : Nat) (most : Int) (hm : most ≤ 1000) : ∀ (rs : List Rw) (out : List Ac), out.length ≤ 1003 → (actsL f S L most rs out).length ≤ 1003
  | [], out, h => by simpa [actsL] using h
  | r :: rs, out, h => by
    rw [actsL]
    split
    · refine length_actsL f S L most hm rs _ ?_
      have : (more S (mkAct f S L r) r.e).length ≤ 2 := by unfold more; split <;> simp
      simp only [List.length_append, List.length_singleton]
      omega
    · exact h
end Go.Proofs.YtgioabhamihfmaaGreatDoor
