/-
  The first line that is wrong is told: the law's function says so. Conditions: those of its specification's 'pre', and that the functions that are called are what theirs say.
-/
import Derived.Test.YthiggepiihoooaaDoorLnH
set_option linter.unusedVariables false
set_option linter.unusedSimpArgs false
namespace Go.Proofs.YthiggepiihoooaaDoor
open Go Go.Vcg

/-! ### Lines that are wrong -/
theorem it0 : Lib.itoa 0 = [48] := by have h := itoa_nat 0; rw [dd_lt (by omega)] at h; exact h
theorem it1 : Lib.itoa 1 = [49] := by have h := itoa_nat 1; rw [dd_lt (by omega)] at h; exact h
theorem it2 : Lib.itoa 2 = [50] := by have h := itoa_nat 2; rw [dd_lt (by omega)] at h; exact h
theorem it9 : Lib.itoa 9 = [57] := by have h := itoa_nat 9; rw [dd_lt (by omega)] at h; exact h
theorem itm : Lib.itoa (-1) = [45, 49] := by
  unfold Lib.itoa
  rw [if_pos (by decide)]
  have e : (-(-1 : Int)).toNat = 1 := rfl
  have e2 : (-1 : Int).natAbs = 1 := rfl
  first | rw [e, dd_lt (by omega)] | rw [e2, dd_lt (by omega)]
  rfl
theorem rdm : rdN (-1) := by unfold rdN; rw [itm]; decide
theorem rd09 {n : Int} (h : 0 ≤ n ∧ n ≤ 9) : rdN n := rdN_nat (by omega)
theorem n0 (r : List (List UInt8)) (b : Bool) : numL ([48] :: r) b = (0, r, b) := by have := numL_rd (n := 0) (rd09 (by decide)) r b; rw [it0] at this; exact this
theorem n1 (r : List (List UInt8)) (b : Bool) : numL ([49] :: r) b = (1, r, b) := by have := numL_rd (n := 1) (rd09 (by decide)) r b; rw [it1] at this; exact this
theorem nE (b : Bool) : (numL [] b).2 = ([], true) := by simp [numL, nxtW]
theorem n01 (r : List (List UInt8)) (b : Bool) : (numL ([48, 49] :: r) b).2 = (r, true) := by
  have e1 : atoiV [48, 49] = 1 := by decide
  simp [numL, nxtW, e1, it1]
theorem cE (b : Bool) : (callL [] b).2 = ([], true) := by
  have e : idxW (callsL.drop 1) [] + 1 = 0 := by decide
  simp only [callL, nxtW, e]; rfl
theorem tE {w : List UInt8} (h : w.length % 2 = 0) (r : List (List UInt8)) (b : Bool) : (textL (w :: r) b).2 = (r, true) := by
  have e : textL (w :: r) b = ([], r, true) := if_neg (fun g : w.length % 2 = 1 ∧ _ => by omega)
  rw [e]
theorem callL_at {w : List UInt8} {k : Int} (hk : idxW (callsL.drop 1) w + 1 = k) (r : List (List UInt8)) (b : Bool) : callL (w :: r) b = callK1 k r b := by subst hk; rfl
theorem bad_form {S : Int} {L : Nat} {m n : Nat} {t b : List UInt8} {lx : List Ac} (ht : t = b ++ [10]) (hb : (10 : UInt8) ∉ b) (h : (oneL b).2 = false) (hn : n < 3000) : readF S L (m + 1) n t lx = ([], n, 4) := by
  subst ht
  rw [readF, if_neg (by simp), if_neg (by omega), cut_at _ hb, if_pos (.inr h)]
theorem bad_rng {S : Int} {L : Nat} {m n : Nat} {t : List UInt8} {a : Ac} {lx : List Ac} (ht : t = bodyOf a ++ [10]) (ha : RdA a) (h : actE S L a = 2) (hn : n < 3000) : readF S L (m + 1) n t lx = ([], n, 2) := by
  subst ht
  rw [readF, if_neg (by simp), if_neg (by omega), cut_at _ (body_no a), if_neg (by simp [oneL_body ha]), oneL_body ha, if_pos (by rw [h]; decide), h]
theorem odT1 {S : Int} {L : Nat} {m n : Nat} {lx : List Ac} (hn : n < 3000) : readF S L (m + 1) n [84, 105, 99, 107, 10] lx = ([], n, 4) := by
  refine bad_form (b := [84, 105, 99, 107]) rfl (by decide) ?_ hn
  have es : Lib.split [84, 105, 99, 107] [32] = [[84, 105, 99, 107]] := by decide
  have ek : idxW (wordsL.drop 1) [84, 105, 99, 107] + 1 = 0 := by decide
  unfold oneL oneW
  simp only [es, nxtW, ek]
  simp [oneX, oneK, oneA, oneP, oneC, oneT, n0, n1, n01, nE, cE]
theorem odT2 {S : Int} {L : Nat} {m n : Nat} {lx : List Ac} (hn : n < 3000) : readF S L (m + 1) n [116, 105, 99, 107, 32, 49, 10] lx = ([], n, 4) := by
  refine bad_form (b := [116, 105, 99, 107, 32, 49]) rfl (by decide) ?_ hn
  have es : Lib.split [116, 105, 99, 107, 32, 49] [32] = [[116, 105, 99, 107], [49]] := by decide
  have ek : idxW (wordsL.drop 1) [116, 105, 99, 107] + 1 = 5 := by decide
  unfold oneL oneW
  simp only [es, nxtW, ek]
  simp [oneX, oneK, oneA, oneP, oneC, oneT, n0, n1, n01, nE, cE]
theorem odT3 {S : Int} {L : Nat} {m n : Nat} {lx : List Ac} (hn : n < 3000) : readF S L (m + 1) n [97, 115, 107, 32, 48, 32, 48, 10] lx = ([], n, 4) := by
  refine bad_form (b := [97, 115, 107, 32, 48, 32, 48]) rfl (by decide) ?_ hn
  have es : Lib.split [97, 115, 107, 32, 48, 32, 48] [32] = [[97, 115, 107], [48], [48]] := by decide
  have ek : idxW (wordsL.drop 1) [97, 115, 107] + 1 = 1 := by decide
  unfold oneL oneW
  simp only [es, nxtW, ek]
  simp [oneX, oneK, oneA, oneP, oneC, oneT, n0, n1, n01, nE, cE]
theorem odT4 {S : Int} {L : Nat} {m n : Nat} {lx : List Ac} (hn : n < 3000) : readF S L (m + 1) n [97, 115, 107, 32, 48, 32, 48, 32, 98, 101, 103, 105, 110, 32, 49, 10] lx = ([], n, 4) := by
  refine bad_form (b := [97, 115, 107, 32, 48, 32, 48, 32, 98, 101, 103, 105, 110, 32, 49]) rfl (by decide) ?_ hn
  have es : Lib.split [97, 115, 107, 32, 48, 32, 48, 32, 98, 101, 103, 105, 110, 32, 49] [32] = [[97, 115, 107], [48], [48], [98, 101, 103, 105, 110], [49]] := by decide
  have ek : idxW (wordsL.drop 1) [97, 115, 107] + 1 = 1 := by decide
  have ec : idxW (callsL.drop 1) [98, 101, 103, 105, 110] + 1 = 1 := by decide
  unfold oneL oneW
  simp only [es, nxtW, ek]
  simp [oneX, oneK, oneA, oneP, oneC, oneT, n0, n1, n01, nE, cE, callL_at ec, callK1]
def od5 : Ac := ⟨1, 0, 0, 2, 0, [], ⟨1, 0, 0, 0, 0⟩, []⟩
theorem odT5 {m n : Nat} {lx : List Ac} (hn : n < 3000) : readF 2 2 (m + 1) n [97, 115, 107, 32, 48, 32, 50, 32, 98, 101, 103, 105, 110, 10] lx = ([], n, 2) := by
  refine bad_rng (a := od5) ?_ ?_ (by decide) hn
  · have e : bodyOf od5 ++ [10] = wordK od5.kind ++ blankF (wordsOf od5) ++ [10] := rfl
    rw [e]
    simp only [od5, wordsOf, valsOf, callVals, blankF]
    simp [it0, it1, it2, it9, itm]
    decide
  · refine ⟨by decide, by simp [bareB, od5, zeroC, c0, pathK], ?_, ?_⟩
    · simp only [od5, valsOf]; simp [rdm]; all_goals first | exact rd09 (by decide) | (refine ⟨?_, ?_⟩ <;> exact rd09 (by decide)) | exact ⟨rd09 (by decide), rdm⟩
    · intro _; exact ⟨by decide, by simp [od5, frmC], by simp only [od5, callVals]; simp; all_goals first | exact rd09 (by decide) | exact ⟨rd09 (by decide), rd09 (by decide), rd09 (by decide)⟩⟩
theorem odT6 {S : Int} {L : Nat} {m n : Nat} {lx : List Ac} (hn : n < 3000) : readF S L (m + 1) n [97, 115, 107, 32, 48, 32, 48, 32, 103, 101, 116, 32, 49, 32, 48, 10] lx = ([], n, 4) := by
  refine bad_form (b := [97, 115, 107, 32, 48, 32, 48, 32, 103, 101, 116, 32, 49, 32, 48]) rfl (by decide) ?_ hn
  have es : Lib.split [97, 115, 107, 32, 48, 32, 48, 32, 103, 101, 116, 32, 49, 32, 48] [32] = [[97, 115, 107], [48], [48], [103, 101, 116], [49], [48]] := by decide
  have ek : idxW (wordsL.drop 1) [97, 115, 107] + 1 = 1 := by decide
  have ec : idxW (callsL.drop 1) [103, 101, 116] + 1 = 2 := by decide
  unfold oneL oneW
  simp only [es, nxtW, ek]
  simp [oneX, oneK, oneA, oneP, oneC, oneT, n0, n1, n01, nE, cE, callL_at ec, callK1]
def od7 : Ac := ⟨1, 0, 0, 0, 0, [], ⟨2, 1, 0, 9, 0⟩, []⟩
theorem odT7 {m n : Nat} {lx : List Ac} (hn : n < 3000) : readF 2 2 (m + 1) n [97, 115, 107, 32, 48, 32, 48, 32, 103, 101, 116, 32, 49, 32, 48, 32, 57, 10] lx = ([], n, 2) := by
  refine bad_rng (a := od7) ?_ ?_ (by decide) hn
  · have e : bodyOf od7 ++ [10] = wordK od7.kind ++ blankF (wordsOf od7) ++ [10] := rfl
    rw [e]
    simp only [od7, wordsOf, valsOf, callVals, blankF]
    simp [it0, it1, it2, it9, itm]
    decide
  · refine ⟨by decide, by simp [bareB, od7, zeroC, c0, pathK], ?_, ?_⟩
    · simp only [od7, valsOf]; simp [rdm]; all_goals first | exact rd09 (by decide) | (refine ⟨?_, ?_⟩ <;> exact rd09 (by decide)) | exact ⟨rd09 (by decide), rdm⟩
    · intro _; exact ⟨by decide, by simp [od7, frmC], by simp only [od7, callVals]; simp; all_goals first | exact rd09 (by decide) | exact ⟨rd09 (by decide), rd09 (by decide), rd09 (by decide)⟩⟩
theorem odT8 {S : Int} {L : Nat} {m n : Nat} {lx : List Ac} (hn : n < 3000) : readF S L (m + 1) n [100, 101, 108, 105, 118, 101, 114, 32, 48, 32, 48, 32, 48, 10] lx = ([], n, 4) := by
  refine bad_form (b := [100, 101, 108, 105, 118, 101, 114, 32, 48, 32, 48, 32, 48]) rfl (by decide) ?_ hn
  have es : Lib.split [100, 101, 108, 105, 118, 101, 114, 32, 48, 32, 48, 32, 48] [32] = [[100, 101, 108, 105, 118, 101, 114], [48], [48], [48]] := by decide
  have ek : idxW (wordsL.drop 1) [100, 101, 108, 105, 118, 101, 114] + 1 = 2 := by decide
  unfold oneL oneW
  simp only [es, nxtW, ek]
  simp [oneX, oneK, oneA, oneP, oneC, oneT, n0, n1, n01, nE, cE]
def od9 : Ac := ⟨2, 2, 0, 0, 0, [], c0, []⟩
theorem odT9 {m n : Nat} {lx : List Ac} (hn : n < 3000) : readF 2 2 (m + 1) n [100, 101, 108, 105, 118, 101, 114, 32, 50, 32, 48, 32, 48, 32, 48, 10] lx = ([], n, 2) := by
  refine bad_rng (a := od9) ?_ ?_ (by decide) hn
  · have e : bodyOf od9 ++ [10] = wordK od9.kind ++ blankF (wordsOf od9) ++ [10] := rfl
    rw [e]
    simp only [od9, wordsOf, valsOf, callVals, blankF]
    simp [it0, it1, it2, it9, itm]
    decide
  · refine ⟨by decide, by simp [bareB, od9, zeroC, c0, pathK], ?_, ?_⟩
    · simp only [od9, valsOf]; simp [rdm]; all_goals first | exact rd09 (by decide) | (refine ⟨?_, ?_⟩ <;> exact rd09 (by decide)) | exact ⟨rd09 (by decide), rdm⟩
    · intro _; rename_i hk; exact absurd hk (by decide)
def od10 : Ac := ⟨3, 0, 0, 0, -1, [], c0, []⟩
theorem odT10 {m n : Nat} {lx : List Ac} (hn : n < 3000) : readF 2 2 (m + 1) n [100, 114, 111, 112, 32, 48, 32, 48, 32, 48, 32, 45, 49, 10] lx = ([], n, 2) := by
  refine bad_rng (a := od10) ?_ ?_ (by decide) hn
  · have e : bodyOf od10 ++ [10] = wordK od10.kind ++ blankF (wordsOf od10) ++ [10] := rfl
    rw [e]
    simp only [od10, wordsOf, valsOf, callVals, blankF]
    simp [it0, it1, it2, it9, itm]
    decide
  · refine ⟨by decide, by simp [bareB, od10, zeroC, c0, pathK], ?_, ?_⟩
    · simp only [od10, valsOf]; simp [rdm]; all_goals first | exact rd09 (by decide) | (refine ⟨?_, ?_⟩ <;> exact rd09 (by decide)) | exact ⟨rd09 (by decide), rdm⟩
    · intro _; rename_i hk; exact absurd hk (by decide)
theorem odT11 {S : Int} {L : Nat} {m n : Nat} {lx : List Ac} (hn : n < 3000) : readF S L (m + 1) n [99, 114, 97, 115, 104, 10] lx = ([], n, 4) := by
  refine bad_form (b := [99, 114, 97, 115, 104]) rfl (by decide) ?_ hn
  have es : Lib.split [99, 114, 97, 115, 104] [32] = [[99, 114, 97, 115, 104]] := by decide
  have ek : idxW (wordsL.drop 1) [99, 114, 97, 115, 104] + 1 = 6 := by decide
  unfold oneL oneW
  simp only [es, nxtW, ek]
  simp [oneX, oneK, oneA, oneP, oneC, oneT, n0, n1, n01, nE, cE, keepL]
def od12 : Ac := ⟨6, 0, 0, 0, 0, [0, 0, 0], c0, []⟩
theorem odT12 {m n : Nat} {lx : List Ac} (hn : n < 3000) : readF 2 2 (m + 1) n [99, 114, 97, 115, 104, 32, 48, 32, 48, 32, 48, 32, 48, 10] lx = ([], n, 2) := by
  refine bad_rng (a := od12) ?_ ?_ (by decide) hn
  · have e : bodyOf od12 ++ [10] = wordK od12.kind ++ blankF (wordsOf od12) ++ [10] := rfl
    rw [e]
    simp only [od12, wordsOf, valsOf, callVals, blankF]
    simp [it0, it1, it2, it9, itm]
    decide
  · refine ⟨by decide, by simp [bareB, od12, zeroC, c0, pathK], ?_, ?_⟩
    · simp only [od12, valsOf]; simp [rdm]; all_goals first | exact rd09 (by decide) | (refine ⟨?_, ?_⟩ <;> exact rd09 (by decide)) | exact ⟨rd09 (by decide), rdm⟩
    · intro _; rename_i hk; exact absurd hk (by decide)
theorem odT13 {S : Int} {L : Nat} {m n : Nat} {lx : List Ac} (hn : n < 3000) : readF S L (m + 1) n [115, 116, 97, 114, 116, 32, 48, 49, 10] lx = ([], n, 4) := by
  refine bad_form (b := [115, 116, 97, 114, 116, 32, 48, 49]) rfl (by decide) ?_ hn
  have es : Lib.split [115, 116, 97, 114, 116, 32, 48, 49] [32] = [[115, 116, 97, 114, 116], [48, 49]] := by decide
  have ek : idxW (wordsL.drop 1) [115, 116, 97, 114, 116] + 1 = 7 := by decide
  unfold oneL oneW
  simp only [es, nxtW, ek]
  simp [oneX, oneK, oneA, oneP, oneC, oneT, n0, n1, n01, nE, cE]
theorem odT14 {S : Int} {L : Nat} {m n : Nat} {lx : List Ac} (hn : n < 3000) : readF S L (m + 1) n [116, 121, 112, 101, 32, 48, 32, 48, 32, 54, 49, 10] lx = ([], n, 4) := by
  refine bad_form (b := [116, 121, 112, 101, 32, 48, 32, 48, 32, 54, 49]) rfl (by decide) ?_ hn
  have es : Lib.split [116, 121, 112, 101, 32, 48, 32, 48, 32, 54, 49] [32] = [[116, 121, 112, 101], [48], [48], [54, 49]] := by decide
  have ek : idxW (wordsL.drop 1) [116, 121, 112, 101] + 1 = 8 := by decide
  unfold oneL oneW
  simp only [es, nxtW, ek]
  simp [oneX, oneK, oneA, oneP, oneC, oneT, n0, n1, n01, nE, cE, tE]
theorem odT15 {S : Int} {L : Nat} {m n : Nat} {lx : List Ac} (hn : n < 3000) : readF S L (m + 1) n [116, 121, 112, 101, 32, 48, 32, 48, 32, 46, 54, 10] lx = ([], n, 4) := by
  refine bad_form (b := [116, 121, 112, 101, 32, 48, 32, 48, 32, 46, 54]) rfl (by decide) ?_ hn
  have es : Lib.split [116, 121, 112, 101, 32, 48, 32, 48, 32, 46, 54] [32] = [[116, 121, 112, 101], [48], [48], [46, 54]] := by decide
  have ek : idxW (wordsL.drop 1) [116, 121, 112, 101] + 1 = 8 := by decide
  unfold oneL oneW
  simp only [es, nxtW, ek]
  simp [oneX, oneK, oneA, oneP, oneC, oneT, n0, n1, n01, nE, cE, tE]
theorem odT16 {S : Int} {L : Nat} {m n : Nat} {lx : List Ac} (hn : n < 3000) : readF S L (m + 1) n [116, 105, 99, 107] lx = ([], n, 4) := by
  rw [readF, if_neg (by simp), if_neg (by omega), cut_no (by decide), if_pos (.inl rfl)]
def oddL : List (List UInt8) := [[], [84, 105, 99, 107, 10], [116, 105, 99, 107, 32, 49, 10], [97, 115, 107, 32, 48, 32, 48, 10], [97, 115, 107, 32, 48, 32, 48, 32, 98, 101, 103, 105, 110, 32, 49, 10], [97, 115, 107, 32, 48, 32, 50, 32, 98, 101, 103, 105, 110, 10], [97, 115, 107, 32, 48, 32, 48, 32, 103, 101, 116, 32, 49, 32, 48, 10], [97, 115, 107, 32, 48, 32, 48, 32, 103, 101, 116, 32, 49, 32, 48, 32, 57, 10], [100, 101, 108, 105, 118, 101, 114, 32, 48, 32, 48, 32, 48, 10], [100, 101, 108, 105, 118, 101, 114, 32, 50, 32, 48, 32, 48, 32, 48, 10], [100, 114, 111, 112, 32, 48, 32, 48, 32, 48, 32, 45, 49, 10], [99, 114, 97, 115, 104, 10], [99, 114, 97, 115, 104, 32, 48, 32, 48, 32, 48, 32, 48, 10], [115, 116, 97, 114, 116, 32, 48, 49, 10], [116, 121, 112, 101, 32, 48, 32, 48, 32, 54, 49, 10], [116, 121, 112, 101, 32, 48, 32, 48, 32, 46, 54, 10], [116, 105, 99, 107]]
def errL : List Int := [0, 4, 4, 4, 4, 2, 4, 2, 4, 2, 2, 4, 2, 4, 4, 4, 4]
theorem odd_read {lx : List Ac} (hok : ∀ a ∈ lx, actE 2 2 a = 0) (hl : lx.length < 3000) : ∀ b : Nat, 1 ≤ b → b < 17 → readL 2 2 (linesOf lx ++ oddL.getD b []) = ([], lx.length, errL.getD b 0) := by
  intro b h1 h2
  rw [readL_lines hok (by omega) (by decide) (by decide)]
  have e : 3001 - lx.length = (3000 - lx.length) + 1 := by omega
  rw [e]
  rcases (show b = 1 ∨ b = 2 ∨ b = 3 ∨ b = 4 ∨ b = 5 ∨ b = 6 ∨ b = 7 ∨ b = 8 ∨ b = 9 ∨ b = 10 ∨ b = 11 ∨ b = 12 ∨ b = 13 ∨ b = 14 ∨ b = 15 ∨ b = 16 by omega) with rfl | rfl | rfl | rfl | rfl | rfl | rfl | rfl | rfl | rfl | rfl | rfl | rfl | rfl | rfl | rfl
  · exact odT1 hl
  · exact odT2 hl
  · exact odT3 hl
  · exact odT4 hl
  · exact odT5 hl
  · exact odT6 hl
  · exact odT7 hl
  · exact odT8 hl
  · exact odT9 hl
  · exact odT10 hl
  · exact odT11 hl
  · exact odT12 hl
  · exact odT13 hl
  · exact odT14 hl
  · exact odT15 hl
  · exact odT16 hl
def sp_LinesBad : Sp := { pre := fun ds => ∃ (rs : List Rw) (w : Int), ds = [rawsD rs, .int .i64 w] ∧ okRaws rs ∧ inR .i64 w, F := fun _ => .bool true }
theorem oddL_len : ∀ b : Nat, b < 17 → (oddL.getD b []).length ≤ 20 ∧ (1 ≤ b → ¬ oddL.getD b [] = []) := by decide
section
variable {T : Tb}
attribute [local simp] k_seq k_block k_skip k_reg k_alt k_cond k_exit k_ret kf_nil kf_seq_n kf_seq_e kf_seq_r kf_blk_n kf_blk_e kf_blk_r kf_lp_n kf_lp_e kf_lp_r kf_cut_n kf_cut_e kf_cut_r mkTm VCops VCalt istep act gd applyE wrapD Opd.ev get_mk set_mk set_mk0 tget16 tset16 tget_0 tset_0 tget_1 tset_1 tget_2 tset_2 tget_3 tset_3 tget_4 tset_4 tget_5 tset_5 tget_6 tset_6 tget_7 tset_7 tget_8 tset_8 tget_9 tset_9 tget_10 tset_10 tget_11 tset_11 tget_12 tset_12 tget_13 tset_13 tget_14 tset_14 tget_15 tset_15 D.un D.gu gus IOp.opds binD fnPost getRes IRes.get oneRes D.out outL D.clos closL D.norow norowL D.lv lvL D.scal scalL D.cells D.cell D.cell' St.lk obPut obDel List.lookup cut pickD splice fillParts fillRows elem_cons newsOf D.pl D.forget forgetL Ob.forget forgetO eqCells sg leD leDL leOb apartK St.le D.keys keysL D.rows rowsL obKeys addKeys reach pos D.ren renL Ob.ren inM outM inObs outObs goneK apartN okNames_eq okNms obNms namesOK_nil namesOK_cons freeOK_nil freeOK_cons D.frz frzL Ob.frz frzO St.frz forgetLs dropObs putObs hcall freeOf keeps baseN shD isShift shMax k_bad VCopsG frz_nil actx actc cnum vwCut St.frzT St.opnT St.clsT D.opn opnL Ob.opn opnO VCou VCcx St.oneS D.objI D.objK scrL D.scr St.opnS St.clsS D.cellS D.fzs fzsL k_mrk k_mrq IOper.gh
set_option maxRecDepth 100000 in
set_option maxHeartbeats 8000000 in
theorem v_LinesBad (h0 : T.sp n_reredoskeep_picked = some sp_picked) (h1 : T.sp n_reredoskeep_two = some sp_two) (h2 : T.sp n_reredoskeep_Acts = some sp_Acts) (h3 : T.sp n_lines_Show = some sp_Show) (h4 : T.sp n_lines_Read = some sp_LRead) : Verified T ir_reredoskeep_LinesBad sp_LinesBad := by
  refine Verified.mk ?_
  rintro ds ⟨rs, w, rfl, hrs, hw⟩
  have hF : sp_LinesBad.F [rawsD rs, .int .i64 w] = .bool true := rfl
  rw [hF]
  have x0 : sp_picked.hx = none := rfl
  have x1 : sp_two.hx = none := rfl
  have x2 : sp_Acts.hx = some hs_Acts := rfl
  have x3 : sp_Show.hx = none := rfl
  have x4 : sp_LRead.hx = none := rfl
  have f1 : sp_two.F [.int .i64 1] = .agg [.int .i64 2, .fz 2 ([(0, 0), (1, 0)].map lbc), .int .i64 3] := rfl
  have p1 : sp_two.pre [.int .i64 1] = True := by simp only [sp_two, eq_iff_iff, iff_true]; exact ⟨1, rfl, by simp only [inR]; omega⟩
  have hck : check 2 [(0, 0), (1, 0)] 3 = 0 := by decide
  have f2 := Acts_F 2 [(0, 0), (1, 0)] 3 rs 12 .i64 (.bool true)
  have p2 := Acts_pre (S := 2) (ls := [(0, 0), (1, 0)]) (p := 3) (rs := rs) (most := 12) ⟨by omega, by omega, by decide, by decide⟩ hrs ⟨by omega, by omega⟩
  have hgood := actsL_good 2 2 12 (by decide) (by decide) rs [] (by simp)
  have hlen := length_actsL 2 2 12 (by decide) rs [] (by simp)
  have hl2 : ([(0, 0), (1, 0)] : List (Int × Int)).length = 2 := rfl
  rw [hl2] at f2
  generalize actsL 2 2 12 rs [] = lx at f2 hgood hlen
  have f0 : sp_picked.F [.int .i64 w, .int .i64 17] = .int .i64 (pk w 17) := rfl
  have p0 : sp_picked.pre [.int .i64 w, .int .i64 17] = True := by simp only [sp_picked, eq_iff_iff, iff_true]; exact ⟨_, _, rfl, hw, by decide⟩
  have b0 := pk_bounds w 17 (by decide)
  generalize pk w 17 = kk at f0 b0
  obtain ⟨k, rfl⟩ : ∃ k : Nat, kk = k := ⟨kk.toNat, by omega⟩
  have f3 := show_F 2 [(0, 0), (1, 0)] 3 lx
  have p3 := show_pre (P := 3) (l := lx) hck (by omega) (good_acts' (by decide) hgood) (by omega) (by decide)
  have hll := lines_len' (S := 2) (L := 2) (by omega) (by omega) hgood
  obtain ⟨ho1, ho2⟩ := oddL_len k (by omega)
  have f4 := lread_F 2 [(0, 0), (1, 0)] 3 (linesOf lx ++ oddL.getD k [])
  have p4 := lread_pre (S := 2) (ls := [(0, 0), (1, 0)]) (P := 3) (s := linesOf lx ++ oddL.getD k []) hck (by rw [List.length_append]; omega)
  rw [hl2] at f4
  have hel := elem_map wc oddL k (by have : oddL.length = 17 := rfl; omega)
  have hel2 := elem_map ic errL k (by have : errL.length = 17 := rfl; omega)
  have ho3 : oddL[k]'(by have : oddL.length = 17 := rfl; omega) = oddL.getD k [] := by rw [List.getD_eq_getElem?_getD, List.getElem?_eq_getElem (by have : oddL.length = 17 := rfl; omega)]; rfl
  have ho4 : errL[k]'(by have : errL.length = 17 := rfl; omega) = errL.getD k 0 := by rw [List.getD_eq_getElem?_getD, List.getElem?_eq_getElem (by have : errL.length = 17 := rfl; omega)]; rfl
  rw [ho3] at hel
  rw [ho4] at hel2
  have hlm : (lx.map actC).length = lx.length := List.length_map ..
  by_cases hk0 : k = 0
  · subst hk0
    have hod : oddL.getD 0 [] = [] := rfl
    rw [hod, List.append_nil] at f4 p4
    rw [readL_back hgood (by omega) (by omega) (by decide)] at f4
    generalize linesOf lx = t at f3 f4 p4 hll
    generalize lx.map actC = es at *
    simp only [cfgD, rawsD, List.map_cons, List.map_nil, lbc] at f1 p1 f2 p2 f3 p3 f4 p4 ⊢
    simp (implicitDefEqProofs := false) (maxSteps := 10000000) [ir_reredoskeep_LinesBad, h0, x0, f0, p0, h1, x1, f1, p1, h2, x2, f2, p2, h3, x3, f3, p3, h4, x4, f4, p4]
    omega
  · rw [odd_read hgood (by omega) k (by omega) (by omega)] at f4
    have ho5 := ho2 (by omega)
    generalize oddL.getD k [] = od at *
    generalize errL.getD k 0 = er at *
    generalize linesOf lx = t at f3 f4 p4 hll
    generalize lx.map actC = es at *
    have e1 : oddL.map wc = [[.str []], [.str [84, 105, 99, 107, 10]], [.str [116, 105, 99, 107, 32, 49, 10]], [.str [97, 115, 107, 32, 48, 32, 48, 10]], [.str [97, 115, 107, 32, 48, 32, 48, 32, 98, 101, 103, 105, 110, 32, 49, 10]], [.str [97, 115, 107, 32, 48, 32, 50, 32, 98, 101, 103, 105, 110, 10]], [.str [97, 115, 107, 32, 48, 32, 48, 32, 103, 101, 116, 32, 49, 32, 48, 10]], [.str [97, 115, 107, 32, 48, 32, 48, 32, 103, 101, 116, 32, 49, 32, 48, 32, 57, 10]], [.str [100, 101, 108, 105, 118, 101, 114, 32, 48, 32, 48, 32, 48, 10]], [.str [100, 101, 108, 105, 118, 101, 114, 32, 50, 32, 48, 32, 48, 32, 48, 10]], [.str [100, 114, 111, 112, 32, 48, 32, 48, 32, 48, 32, 45, 49, 10]], [.str [99, 114, 97, 115, 104, 10]], [.str [99, 114, 97, 115, 104, 32, 48, 32, 48, 32, 48, 32, 48, 10]], [.str [115, 116, 97, 114, 116, 32, 48, 49, 10]], [.str [116, 121, 112, 101, 32, 48, 32, 48, 32, 54, 49, 10]], [.str [116, 121, 112, 101, 32, 48, 32, 48, 32, 46, 54, 10]], [.str [116, 105, 99, 107]]] := rfl
    have e2 : errL.map ic = [[.int .i64 0], [.int .i64 4], [.int .i64 4], [.int .i64 4], [.int .i64 4], [.int .i64 2], [.int .i64 4], [.int .i64 2], [.int .i64 4], [.int .i64 2], [.int .i64 2], [.int .i64 4], [.int .i64 2], [.int .i64 4], [.int .i64 4], [.int .i64 4], [.int .i64 4]] := rfl
    rw [e1] at hel
    rw [e2] at hel2
    simp only [ic, wc] at hel hel2
    have hk17 : (k : Int) < 17 := by omega
    have hk17' : k < 17 := by omega
    simp only [cfgD, rawsD, List.map_cons, List.map_nil, lbc] at f1 p1 f2 p2 f3 p3 f4 p4 ⊢
    simp (implicitDefEqProofs := false) (maxSteps := 10000000) [ir_reredoskeep_LinesBad, h0, x0, f0, p0, h1, x1, f1, p1, h2, x2, f2, p2, h3, x3, f3, p3, h4, x4, f4, p4, hel, hel2, hk17, hk17', ho5]
    exact ⟨by omega, by omega⟩
end
end Go.Proofs.YthiggepiihoooaaDoor
