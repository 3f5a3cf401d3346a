/-
  What is purged, and of what: plain laws. Conditions: those that each theorem names.
-/
import Derived.Test.YtccoiplnonfkgaaAct4
set_option linter.unusedVariables false
set_option linter.unusedSimpArgs false
namespace Go.Proofs.Ytccoiplnonfkgaa
open Go Go.Vcg

/-! ### Acts of raw numbers -/
def okLab (L : Nat) (x : Ac) : Prop := x.keep.length ≤ L ∧ 0 ≤ x.label ∧ x.label < L
theorem mkAct_ok (S : Int) (L : Nat) (r : Rw) (hL : 0 < L) : okLab L (mkAct S L r) := by
  have h := pk_bounds (r.b.tdiv 31) L (by omega)
  simp only [mkAct, okLab]
  repeat' split
  all_goals simp [crashKeep]
  all_goals omega
theorem more_ok (S : Int) (L : Nat) (a : Ac) (e : Int) (h : okLab L a) : ∀ x ∈ more S a e, okLab L x := by
  intro x hx
  simp only [more] at hx
  simp only [okLab] at h
  split at hx
  · rcases List.mem_cons.1 hx with rfl | hx
    · simp only [okLab, List.length_nil]; omega
    · simp only [List.mem_singleton] at hx; subst hx
      simp only [okLab, List.length_nil]; omega
  · simp at hx
theorem more_length (S : Int) (a : Ac) (e : Int) : (more S a e).length ≤ 2 := by
  simp only [more]; split <;> simp
theorem actsL_ok (S : Int) (L : Nat) (most : Int) (hL : 0 < L) : ∀ (rs : List Rw) (out : List Ac), (∀ x ∈ out, okLab L x) → (out.length : Int) ≤ most + 2 → (∀ x ∈ actsL S L most rs out, okLab L x) ∧ ((actsL S L most rs out).length : Int) ≤ most + 2
  | [], out, h, g => by rw [actsL]; exact ⟨h, g⟩
  | r :: rs, out, h, g => by
    rw [actsL]
    split
    · have hm := mkAct_ok S L r hL
      refine actsL_ok S L most hL rs _ ?_ ?_
      · intro x hx
        rcases List.mem_append.1 hx with hx | hx
        · rcases List.mem_append.1 hx with hx | hx
          · exact h x hx
          · simp only [List.mem_singleton] at hx; subst hx; exact hm
        · exact more_ok S L _ _ hm x hx
      · have := more_length S (mkAct S L r) r.e
        simp; omega
    · exact ⟨h, g⟩
theorem okAc_of {L : Nat} {x : Ac} (hL : L ≤ 6) (h : okLab L x) : okAc x := by
  simp only [okLab, okAc] at *; omega

/-! ### Purged -/
theorem length_purKeep (ls : List (Int × Int)) (l : Nat) (ks : List Int) : (purKeep ls l ks).length = ks.length := by simp [purKeep]
theorem pur1_some {ls : List (Int × Int)} {l : Nat} {a b : Ac} (h : pur1 ls l a = some b) : b.label = a.label ∧ b.keep.length = a.keep.length ∧ b.kind = a.kind ∧ (a.kind ≠ 5 → a.kind ≠ 7 → a.kind ≠ 6 → hid ls l a.label = false) := by
  rw [pur1] at h
  split at h
  · rename_i h1
    injection h with h; subst h
    exact ⟨rfl, rfl, rfl, fun a b c => by rcases h1 with h1 | h1 <;> contradiction⟩
  · split at h
    · rename_i h1
      injection h with h; subst h
      exact ⟨rfl, length_purKeep _ _ _, rfl, fun a b c => absurd h1 c⟩
    · split at h
      · cases h
      · rename_i h1
        injection h with h; subst h
        exact ⟨rfl, rfl, rfl, fun _ _ _ => by simpa using h1⟩
theorem pur_mem {ls : List (Int × Int)} {l : Nat} {ac : List Ac} {b : Ac} (h : b ∈ pur ls l ac) : ∃ a ∈ ac, pur1 ls l a = some b := by
  simpa [pur, List.mem_filterMap] using h
theorem pur_ok {ls : List (Int × Int)} {l L : Nat} {ac : List Ac} (h : ∀ x ∈ ac, okLab L x) : ∀ x ∈ pur ls l ac, okLab L x := by
  intro x hx
  obtain ⟨a, ha, hs⟩ := pur_mem hx
  obtain ⟨h1, h2, _, _⟩ := pur1_some hs
  have := h a ha
  simp only [okLab] at *
  rw [h1, h2]; exact this
theorem pur_length (ls : List (Int × Int)) (l : Nat) (ac : List Ac) : (pur ls l ac).length ≤ ac.length := List.length_filterMap_le _ _
theorem pur_seen {ls : List (Int × Int)} {l : Nat} {ac : List Ac} {b : Ac} (h : b ∈ pur ls l ac) (h5 : b.kind ≠ 5) (h7 : b.kind ≠ 7) (h6 : b.kind ≠ 6) : hid ls l b.label = false := by
  obtain ⟨a, ha, hs⟩ := pur_mem h
  obtain ⟨h1, _, h3, h4⟩ := pur1_some hs
  rw [h3] at h5 h7 h6
  rw [h1]; exact h4 h5 h7 h6

theorem purKeep_purKeep (ls : List (Int × Int)) (x y : Nat) (h : ∀ i, hid ls x i = true → hid ls y i = true) (ks : List Int) : purKeep ls y (purKeep ls x ks) = purKeep ls y ks := by
  apply List.ext_getElem?
  intro i
  simp only [purKeep, List.getElem?_mapIdx]
  cases ks[i]? with
  | none => rfl
  | some k =>
    simp only [Option.map_some]
    by_cases hx : hid ls x i = true
    · rw [if_pos (h _ hx), if_pos (h _ hx)]
    · rw [if_neg hx]
theorem pur_pur (ls : List (Int × Int)) (x y : Nat) (h : ∀ i, hid ls x i = true → hid ls y i = true) (ac : List Ac) : pur ls y (pur ls x ac) = pur ls y ac := by
  rw [pur, pur, List.filterMap_filterMap, pur]
  congr 1
  funext a
  by_cases h57 : a.kind = 5 ∨ a.kind = 7
  · simp [pur1, h57]
  · by_cases h6 : a.kind = 6
    · simp [pur1, h57, h6, purKeep_purKeep ls x y h]
    · by_cases hx : hid ls x a.label = true
      · simp [pur1, h57, h6, hx, h _ hx]
      · simp [pur1, h57, h6, hx]
theorem purKeep_id (ls : List (Int × Int)) (l : Nat) (h : ∀ i, hid ls l i = false) (ks : List Int) : purKeep ls l ks = ks := by
  apply List.ext_getElem?
  intro i
  simp [purKeep, List.getElem?_mapIdx, h]
theorem pur_id (ls : List (Int × Int)) (l : Nat) (h : ∀ i, hid ls l i = false) (ac : List Ac) : pur ls l ac = ac := by
  have : pur1 ls l = some := by
    funext a
    simp [pur1, h, purKeep_id ls l h]
  rw [pur, this, List.filterMap_some]

/-! ### Labels of raw numbers -/
theorem above_refl' : ∀ p ∈ lcases, above p p = true := by decide +kernel
theorem above_trans' : ∀ p ∈ lcases, ∀ q ∈ lcases, ∀ r ∈ lcases, above p q = true → above q r = true → above p r = true := by decide +kernel
theorem hid_false {ls : List (Int × Int)} {l i : Nat} (hi : i < ls.length) : hid ls l (i : Int) = !above (ls.getD l (0, 0)) (ls.getD i (0, 0)) := by
  simp [hid, hi]
theorem getD_mem {ls : List (Int × Int)} {i : Nat} (hi : i < ls.length) (h : ∀ x ∈ ls, x ∈ lcases) : ls.getD i (0, 0) ∈ lcases := by
  simp only [List.getD_eq_getElem?_getD, List.getElem?_eq_getElem hi, Option.getD_some]
  exact h _ (List.getElem_mem hi)
/-- Who dominates more sees more. -/
theorem hid_mono {ls : List (Int × Int)} {x y : Nat} (hx : x < ls.length) (hy : y < ls.length) (h : ∀ x ∈ ls, x ∈ lcases) (hs : above (ls.getD x (0, 0)) (ls.getD y (0, 0)) = true) : ∀ i, hid ls x i = true → hid ls y i = true := by
  intro i hi
  simp only [hid, Bool.and_eq_true, decide_eq_true_eq, Bool.not_eq_true'] at hi ⊢
  refine ⟨hi.1, ?_⟩
  cases hc : above (ls.getD y (0, 0)) (ls.getD i.toNat (0, 0)) with
  | false => rfl
  | true =>
    have := above_trans' _ (getD_mem hx h) _ (getD_mem hy h) _ (getD_mem (i := i.toNat) (by omega) h) hs hc
    rw [hi.2] at this; exact this.symm
theorem seen_at {S p : Int} {ls : List (Int × Int)} (hc : check S ls p = 0) {a b : Nat} (ha : a < ls.length) (hb : b < ls.length) : seen S ls p a b = above (ls.getD a (0, 0)) (ls.getD b (0, 0)) := by
  have h1 : inL ls a = true := by simp [inL, ha]
  have h2 : inL ls b = true := by simp [inL, hb]
  simp [seen, sees, hc, h1, h2]
theorem purge_at {S p : Int} {ls : List (Int × Int)} (hc : check S ls p = 0) {l : Nat} (hl : l < ls.length) (ac : List Ac) : purge S ls p l ac = (pur ls l ac, 0) := by
  rw [purge, if_neg (by simp [hc]), if_neg (by omega)]; rfl
theorem purge_out {S p : Int} {ls : List (Int × Int)} (hc : check S ls p = 0) (ac : List Ac) : purge S ls p ls.length ac = ([], 6) := by
  rw [purge, if_neg (by simp [hc]), if_pos (by omega)]

/-! ### What the specifications are at given arguments -/
theorem hx_Acts : sp_Acts.hx = none := rfl
theorem hx_Purge : sp_Purge.hx = none := rfl
theorem hx_Config : sp_Config.hx = none := rfl
theorem pre_Acts {S p : Int} {ls : List (Int × Int)} {rs : List Rw} {most : Int} (h1 : 1 ≤ S) (h2 : S ≤ 4) (h3 : 1 ≤ ls.length) (h4 : ls.length ≤ 6) (hr : okRaws rs) (h5 : 0 ≤ most) (h6 : most ≤ 1000) : sp_Acts.pre [.agg [.int .i64 S, .fz 2 (ls.map lbc), .int .i64 p], .fz 6 (rs.map rawC), .int .i64 most, .bool true] = True := by
  simp only [sp_Acts, eq_iff_iff, iff_true]
  exact ⟨_, rs, most, rfl, cfg_is S ls p, by rw [cfg_at]; exact ⟨h1, h2, h3, h4⟩, hr, h5, h6⟩
theorem F_Acts (S p : Int) (ls : List (Int × Int)) (rs : List Rw) (most : Int) : sp_Acts.F [.agg [.int .i64 S, .fz 2 (ls.map lbc), .int .i64 p], .fz 6 (rs.map rawC), .int .i64 most, .bool true] = .fz 12 ((actsL S ls.length most rs []).map actC) := by
  have h := rawsOf_rawsD rs
  simp only [rawsD] at h
  simp only [sp_Acts, cfg_at, h, actsD]
theorem pre_Purge {S p : Int} {ls : List (Int × Int)} {ac : List Ac} (l : Int) (h : ∀ x ∈ ac, okAc x) (g : ac.length ≤ 1000000) : sp_Purge.pre [.agg [.int .i64 S, .fz 2 (ls.map lbc), .int .i64 p], .int .i64 l, .fz 12 (ac.map actC)] = True := by
  simp only [sp_Purge, eq_iff_iff, iff_true]
  exact ⟨_, l, ac, rfl, cfg_is S ls p, h, g⟩
theorem F_Purge (S p : Int) (ls : List (Int × Int)) (ac : List Ac) (l : Int) : sp_Purge.F [.agg [.int .i64 S, .fz 2 (ls.map lbc), .int .i64 p], .int .i64 l, .fz 12 (ac.map actC)] = .tup [.fz 12 ((purge S ls p l ac).1.map actC), .int .i64 (purge S ls p l ac).2] := by
  have h := actsOf_actsD ac
  simp only [actsD] at h
  simp only [sp_Purge, cfg_at, h, actsD]
theorem pre_Config {s p : Int} {ns : List Int} (hs : inR .i64 s) (hn : okInts ns) (hp : inR .i64 p) : sp_Config.pre [.int .i64 s, .fz 1 (ns.map ic), .int .i64 p] = True := by
  simp only [sp_Config, eq_iff_iff, iff_true]
  exact ⟨s, ns, p, rfl, hs, hn, hp⟩
theorem F_Config (s p : Int) (ns : List Int) : sp_Config.F [.int .i64 s, .fz 1 (ns.map ic), .int .i64 p] = .agg [.int .i64 (1 + pk s 3), .fz 2 ((cfgLs ns).map lbc), .int .i64 (1 + pk p 4)] := by
  have h := intsOf_intsD ns
  simp only [intsD] at h
  simp only [sp_Config, h, cfgD]
theorem hx_picked : sp_picked.hx = none := rfl
theorem pre_picked {n m : Int} (h : inR .i64 n) (hm : 0 < m) : sp_picked.pre [.int .i64 n, .int .i64 m] = True := by
  simp only [sp_picked, eq_iff_iff, iff_true]
  exact ⟨n, m, rfl, h, hm⟩
theorem F_picked (n m : Int) : sp_picked.F [.int .i64 n, .int .i64 m] = .int .i64 (pk n m) := rfl
end Go.Proofs.Ytccoiplnonfkgaa
