/-
  Lines are read: words, numbers, a call, a text, one line, all lines. Plain lists, no program. Conditions: those that each theorem names.
-/
import Derived.Test.YthiggepiihoooaaDoorLnP
import Derived.Test.YthiggepiihoooaaDoorCsL
set_option linter.unusedVariables false
set_option linter.unusedSimpArgs false
namespace Go.Proofs.YthiggepiihoooaaDoor
open Go Go.Vcg

/-! ### What reading says -/
def nxtW : List (List UInt8) → Bool → List UInt8 × List (List UInt8) × Bool
  | [], _ => ([], [], true)
  | w :: r, b => (w, r, b)
def numL (ws : List (List UInt8)) (b : Bool) : Int × List (List UInt8) × Bool :=
  (atoiV (nxtW ws b).1, (nxtW ws b).2.1, ((nxtW ws b).2.2 || !atoiOk (nxtW ws b).1) || decide (¬ Lib.itoa (atoiV (nxtW ws b).1) = (nxtW ws b).1))
def digV (c : UInt8) : Int := Lib.indexByte digitsL c
def unhex : List UInt8 → Option (List UInt8)
  | h :: l :: r => if digV h < 0 ∨ digV l < 0 then none else (unhex r).map (UInt8.ofNat (digV h * 16 + digV l).toNat :: ·)
  | _ => some []
def textL (ws : List (List UInt8)) (b : Bool) : List UInt8 × List (List UInt8) × Bool :=
  if (nxtW ws b).1.length % 2 = 1 ∧ (nxtW ws b).1.head? = some 46 then
    match unhex ((nxtW ws b).1.drop 1) with
    | none => ([], (nxtW ws b).2.1, true)
    | some t => (t, (nxtW ws b).2.1, (nxtW ws b).2.2)
  else ([], (nxtW ws b).2.1, true)
def idxW (l : List (List UInt8)) (w : List UInt8) : Int := idxOf (fun x => decide (w = x)) l
def callK1 (k : Int) (ws : List (List UInt8)) (b : Bool) : Cl5 × List (List UInt8) × Bool :=
  if k = 0 then (c0, ws, true)
  else if k = 1 then (⟨1, 0, 0, 0, 0⟩, ws, b)
  else if k = 2 then (⟨2, (numL ws b).1, (numL (numL ws b).2.1 (numL ws b).2.2).1, (numL (numL (numL ws b).2.1 (numL ws b).2.2).2.1 (numL (numL ws b).2.1 (numL ws b).2.2).2.2).1, 0⟩, (numL (numL (numL ws b).2.1 (numL ws b).2.2).2.1 (numL (numL ws b).2.1 (numL ws b).2.2).2.2).2)
  else if k = 3 then (⟨3, (numL ws b).1, 0, (numL (numL ws b).2.1 (numL ws b).2.2).1, (numL (numL (numL ws b).2.1 (numL ws b).2.2).2.1 (numL (numL ws b).2.1 (numL ws b).2.2).2.2).1⟩, (numL (numL (numL ws b).2.1 (numL ws b).2.2).2.1 (numL (numL ws b).2.1 (numL ws b).2.2).2.2).2)
  else (⟨k, (numL ws b).1, 0, 0, 0⟩, (numL ws b).2)
def callL (ws : List (List UInt8)) (b : Bool) : Cl5 × List (List UInt8) × Bool := callK1 (idxW (callsL.drop 1) (nxtW ws b).1 + 1) (nxtW ws b).2.1 (nxtW ws b).2.2
def keepL : List (List UInt8) → Bool → List Int × List (List UInt8) × Bool
  | [], b => ([], [], b)
  | w :: r, true => ([], w :: r, true)
  | w :: r, false => ((numL (w :: r) false).1 :: (keepL r (numL (w :: r) false).2.2).1, (keepL r (numL (w :: r) false).2.2).2)
def oneP (k : Int) (ws : List (List UInt8)) (b : Bool) : Ac × List (List UInt8) × Bool :=
  (⟨k, (numL ws b).1, (numL (numL ws b).2.1 (numL ws b).2.2).1, (numL (numL (numL ws b).2.1 (numL ws b).2.2).2.1 (numL (numL ws b).2.1 (numL ws b).2.2).2.2).1, (numL (numL (numL (numL ws b).2.1 (numL ws b).2.2).2.1 (numL (numL ws b).2.1 (numL ws b).2.2).2.2).2.1 (numL (numL (numL ws b).2.1 (numL ws b).2.2).2.1 (numL (numL ws b).2.1 (numL ws b).2.2).2.2).2.2).1, [], c0, []⟩, (numL (numL (numL (numL ws b).2.1 (numL ws b).2.2).2.1 (numL (numL ws b).2.1 (numL ws b).2.2).2.2).2.1 (numL (numL (numL ws b).2.1 (numL ws b).2.2).2.1 (numL (numL ws b).2.1 (numL ws b).2.2).2.2).2.2).2)
def oneC (ws : List (List UInt8)) (b : Bool) : Ac × List (List UInt8) × Bool := (⟨6, (numL ws b).1, 0, 0, 0, (keepL (numL ws b).2.1 (numL ws b).2.2).1, c0, []⟩, (keepL (numL ws b).2.1 (numL ws b).2.2).2)
def oneA (ws : List (List UInt8)) (b : Bool) : Ac × List (List UInt8) × Bool := (⟨1, (numL ws b).1, 0, (numL (numL ws b).2.1 (numL ws b).2.2).1, 0, [], (callL (numL (numL ws b).2.1 (numL ws b).2.2).2.1 (numL (numL ws b).2.1 (numL ws b).2.2).2.2).1, []⟩, (callL (numL (numL ws b).2.1 (numL ws b).2.2).2.1 (numL (numL ws b).2.1 (numL ws b).2.2).2.2).2)
def oneT (ws : List (List UInt8)) (b : Bool) : Ac × List (List UInt8) × Bool := (⟨8, (numL ws b).1, 0, (numL (numL ws b).2.1 (numL ws b).2.2).1, 0, [], c0, (textL (numL (numL ws b).2.1 (numL ws b).2.2).2.1 (numL (numL ws b).2.1 (numL ws b).2.2).2.2).1⟩, (textL (numL (numL ws b).2.1 (numL ws b).2.2).2.1 (numL (numL ws b).2.1 (numL ws b).2.2).2.2).2)
def oneK (k : Int) (ws : List (List UInt8)) (b : Bool) : Ac × List (List UInt8) × Bool :=
  if k = 5 then (⟨5, 0, 0, 0, 0, [], c0, []⟩, ws, b)
  else if k = 2 ∨ k = 3 ∨ k = 4 then oneP k ws b
  else if k = 6 then oneC ws b
  else if k = 1 then oneA ws b
  else if k = 8 then oneT ws b
  else (⟨k, (numL ws b).1, 0, 0, 0, [], c0, []⟩, (numL ws b).2)
def a0 : Ac := ⟨0, 0, 0, 0, 0, [], c0, []⟩
def oneX (k : Int) (ws : List (List UInt8)) (b : Bool) : Ac × Bool := if k = 0 then (a0, false) else ((oneK k ws b).1, !(oneK k ws b).2.2 && decide ((oneK k ws b).2.1 = []))
def oneW (ws : List (List UInt8)) : Ac × Bool := oneX (idxW (wordsL.drop 1) (nxtW ws false).1 + 1) (nxtW ws false).2.1 (nxtW ws false).2.2
def oneL (s : List UInt8) : Ac × Bool := oneW (Lib.split s [32])
/-- n more lines may be read; i is the place of the next one. -/
def readF (S : Int) (L : Nat) : Nat → Nat → List UInt8 → List Ac → List Ac × Nat × Int
  | 0, _, _, acc => (acc, 0, 0)
  | n + 1, i, s, acc =>
    if s = [] then (acc, 0, 0)
    else if i = 3000 then ([], i, 1)
    else if (Lib.cut s [10]).2.2 = false ∨ (oneL (Lib.cut s [10]).1).2 = false then ([], i, 4)
    else if actE S L (oneL (Lib.cut s [10]).1).1 ≠ 0 then ([], i, actE S L (oneL (Lib.cut s [10]).1).1)
    else readF S L n (i + 1) (Lib.cut s [10]).2.1 (acc ++ [(oneL (Lib.cut s [10]).1).1])
def readL (S : Int) (L : Nat) (s : List UInt8) : List Ac × Nat × Int := readF S L 3001 0 s []

/-! ### What is written is read back -/
/-- A number that is read back. -/
def rdN (n : Int) : Prop := Lib.atoiAll (Lib.itoa n) = .ok n
theorem rdN_nat {n : Int} (h : 0 ≤ n ∧ n ≤ 9223372036854775807) : rdN n := by
  obtain ⟨u, rfl⟩ : ∃ u : Nat, n = u := ⟨n.toNat, by omega⟩
  unfold rdN
  rw [itoa_nat, atoi_dd (by omega)]
theorem numL_rd {n : Int} (h : rdN n) (r : List (List UInt8)) (b : Bool) : numL (Lib.itoa n :: r) b = (n, r, b) := by
  have e1 : atoiV (Lib.itoa n) = n := by unfold atoiV; rw [h]
  have e2 : atoiOk (Lib.itoa n) = true := by unfold atoiOk; rw [h]
  simp [numL, nxtW, e1, e2]
theorem keepL_rd : ∀ {l : List Int}, (∀ n ∈ l, rdN n) → keepL (l.map Lib.itoa) false = (l, [], false)
  | [], _ => rfl
  | n :: l, h => by
    simp only [List.map_cons, keepL, numL_rd (h n (by simp)), keepL_rd (l := l) fun x hx => h x (by simp [hx])]
theorem dig_back : ∀ n : Fin 16, digV (digitsL.getD n.1 0) = (n.1 : Int) := by decide +kernel
theorem unhex_back : ∀ l : List UInt8, unhex (l.flatMap hexB) = some l
  | [] => rfl
  | b :: l => by
    have h1 := dig_back ⟨b.toNat / 16, by have := b.toNat_lt; omega⟩
    have h2 := dig_back ⟨b.toNat % 16, by omega⟩
    simp only at h1 h2
    have e : ((b :: l).flatMap hexB) = digitsL.getD (b.toNat / 16) 0 :: digitsL.getD (b.toNat % 16) 0 :: l.flatMap hexB := rfl
    rw [e, unhex, h1, h2, unhex_back l, if_neg (by omega)]
    have e2 : (((b.toNat / 16 : Nat) : Int) * 16 + ((b.toNat % 16 : Nat) : Int)).toNat = b.toNat := by omega
    rw [e2]
    simp
theorem textL_rd (l : List UInt8) (r : List (List UInt8)) (b : Bool) : textL (hexOf l :: r) b = (l, r, b) := by
  have h1 := hexOf_len l
  have h2 : (hexOf l).head? = some 46 := rfl
  have h3 : (hexOf l).drop 1 = l.flatMap hexB := rfl
  simp only [textL, nxtW, h2, h3, unhex_back, h1]
  rw [if_pos ⟨by omega, trivial⟩]
theorem idxW_call : ∀ k : Fin 5, idxW (callsL.drop 1) (callsL.getD (k.1 + 1) []) + 1 = (k.1 : Int) + 1 := by decide +kernel
theorem idxW_word : ∀ k : Fin 8, idxW (wordsL.drop 1) (wordsL.getD (k.1 + 1) []) + 1 = (k.1 : Int) + 1 := by decide +kernel
theorem idxW_callK {k : Int} (h : 1 ≤ k ∧ k ≤ 5) : idxW (callsL.drop 1) (callK k) + 1 = k := by
  have := idxW_call ⟨(k - 1).toNat, by omega⟩
  simp only at this
  have e : (k - 1).toNat + 1 = k.toNat := by omega
  rw [e] at this
  unfold callK
  rw [this]; omega
theorem idxW_wordK {k : Int} (h : 1 ≤ k ∧ k ≤ 8) : idxW (wordsL.drop 1) (wordK k) + 1 = k := by
  have := idxW_word ⟨(k - 1).toNat, by omega⟩
  simp only at this
  have e : (k - 1).toNat + 1 = k.toNat := by omega
  rw [e] at this
  unfold wordK
  rw [this]; omega
/-- A call has what its kind has, and its numbers are read back. -/
structure RdC (x : Cl5) : Prop where
  k : 1 ≤ x.kind ∧ x.kind ≤ 5
  f : frmC x
  n : ∀ n ∈ callVals x, rdN n
theorem callL_rd {x : Cl5} (h : RdC x) (b : Bool) : callL (callK x.kind :: (callVals x).map Lib.itoa) b = (x, [], b) := by
  obtain ⟨hk, ⟨f1, f2, f3, f4⟩, hn⟩ := h
  unfold callL
  simp only [nxtW]
  rw [idxW_callK hk]
  unfold callVals at hn ⊢
  obtain ⟨kind, n, label, key, value⟩ := x
  simp only at *
  rcases (show kind = 1 ∨ kind = 2 ∨ kind = 3 ∨ kind = 4 ∨ kind = 5 by omega) with rfl | rfl | rfl | rfl | rfl
  · have g1 := f1 rfl; have g2 := f2 (by decide); have g3 := f3 (by decide) (by decide); have g4 := f4 (by decide)
    subst g1 g2 g3 g4
    simp [callK1]
  · have g4 := f4 (by decide)
    subst g4
    have h1 : rdN n := hn n (by simp)
    have h2 : rdN label := hn label (by simp)
    have h3 : rdN key := hn key (by simp)
    simp [callK1, numL_rd h1, numL_rd h2, numL_rd h3]
  · have g2 := f2 (by decide)
    subst g2
    have h1 : rdN n := hn n (by simp)
    have h2 : rdN key := hn key (by simp)
    have h3 : rdN value := hn value (by simp)
    simp [callK1, numL_rd h1, numL_rd h2, numL_rd h3]
  · have g2 := f2 (by decide); have g3 := f3 (by decide) (by decide); have g4 := f4 (by decide)
    subst g2 g3 g4
    have h1 : rdN n := hn n (by simp)
    simp [callK1, numL_rd h1]
  · have g2 := f2 (by decide); have g3 := f3 (by decide) (by decide); have g4 := f4 (by decide)
    subst g2 g3 g4
    have h1 : rdN n := hn n (by simp)
    simp [callK1, numL_rd h1]
/-- An act has what its kind has, and its numbers are read back. -/
structure RdA (a : Ac) : Prop where
  k : 1 ≤ a.kind ∧ a.kind ≤ 8
  f : bareB a
  n : ∀ n ∈ valsOf a, rdN n
  c : a.kind = 1 → RdC a.call
def wordsOf (a : Ac) : List (List UInt8) := (valsOf a).map Lib.itoa ++ (if a.kind = 1 then callK a.call.kind :: (callVals a.call).map Lib.itoa else if a.kind = 8 then [hexOf a.line] else [])
theorem zeroC_eq {x : Cl5} (h : zeroC x) : x = c0 := by
  obtain ⟨k, n, l, y, v⟩ := x
  obtain ⟨h1, h2, h3, h4, h5⟩ := h
  simp only at *
  subst h1 h2 h3 h4 h5
  rfl
theorem oneK_rd {a : Ac} (h : RdA a) : oneK a.kind (wordsOf a) false = (a, [], false) := by
  obtain ⟨hk, hf, hn, hc⟩ := h
  unfold bareB pathK at hf
  unfold wordsOf oneK
  unfold valsOf at hn ⊢
  obtain ⟨kind, site, to, label, pick, keep, call, line⟩ := a
  simp only at *
  rcases (show kind = 1 ∨ kind = 2 ∨ kind = 3 ∨ kind = 4 ∨ kind = 5 ∨ kind = 6 ∨ kind = 7 ∨ kind = 8 by omega) with rfl | rfl | rfl | rfl | rfl | rfl | rfl | rfl
  · simp at hf hn
    obtain ⟨⟨rfl, rfl⟩, rfl, rfl⟩ := hf
    simp [oneA, numL_rd hn.1, numL_rd hn.2, callL_rd (hc rfl)]
  · simp at hf hn
    obtain ⟨rfl, g, rfl⟩ := hf
    obtain rfl := zeroC_eq g
    simp [oneP, numL_rd hn.1, numL_rd hn.2.1, numL_rd hn.2.2.1, numL_rd hn.2.2.2]
  · simp at hf hn
    obtain ⟨rfl, g, rfl⟩ := hf
    obtain rfl := zeroC_eq g
    simp [oneP, numL_rd hn.1, numL_rd hn.2.1, numL_rd hn.2.2.1, numL_rd hn.2.2.2]
  · simp at hf hn
    obtain ⟨rfl, g, rfl⟩ := hf
    obtain rfl := zeroC_eq g
    simp [oneP, numL_rd hn.1, numL_rd hn.2.1, numL_rd hn.2.2.1, numL_rd hn.2.2.2]
  · simp at hf hn
    obtain ⟨rfl, rfl, ⟨rfl, rfl⟩, rfl, g, rfl⟩ := hf
    obtain rfl := zeroC_eq g
    simp
  · simp at hf hn
    obtain ⟨rfl, ⟨rfl, rfl⟩, g, rfl⟩ := hf
    obtain rfl := zeroC_eq g
    simp [oneC, numL_rd hn.1, keepL_rd hn.2]
  · simp at hf hn
    obtain ⟨rfl, ⟨rfl, rfl⟩, rfl, g, rfl⟩ := hf
    obtain rfl := zeroC_eq g
    simp [numL_rd hn]
  · simp at hf hn
    obtain ⟨⟨rfl, rfl⟩, rfl, g⟩ := hf
    obtain rfl := zeroC_eq g
    simp [oneT, numL_rd hn.1, numL_rd hn.2, textL_rd]
theorem oneW_rd {a : Ac} (h : RdA a) : oneW (wordK a.kind :: wordsOf a) = (a, true) := by
  show oneX (idxW (wordsL.drop 1) (wordK a.kind) + 1) (wordsOf a) false = _
  rw [idxW_wordK h.k, oneX, oneK_rd h, if_neg (by have := h.k; omega)]
  simp
def blankF (ws : List (List UInt8)) : List UInt8 := ws.flatMap (32 :: ·)
def bodyOf (a : Ac) : List UInt8 := wordK a.kind ++ blankF (wordsOf a)
theorem numsS_blank (l : List Int) : numsS l = blankF (l.map Lib.itoa) := by simp [numsS, blankF, List.flatMap_map]
theorem lineOf_body (a : Ac) : lineOf a = bodyOf a ++ [10] := by
  unfold lineOf bodyOf wordsOf tailOf askedOf
  rw [numsS_blank, numsS_blank]
  unfold blankF
  split
  · simp
  · split <;> simp
theorem split_words {c : UInt8} : ∀ (w : List UInt8) (ws : List (List UInt8)), c ∉ w → (∀ x ∈ ws, c ∉ x) → Lib.split (w ++ ws.flatMap (c :: ·)) [c] = w :: ws
  | w, [], h, _ => by simpa using split_last h
  | w, x :: ws, h, h2 => by
    have e : w ++ (x :: ws).flatMap (c :: ·) = w ++ c :: (x ++ ws.flatMap (c :: ·)) := by simp
    rw [e, split_word _ h, split_words x ws (h2 x (by simp)) fun y hy => h2 y (by simp [hy])]
theorem split_join (c : UInt8) : ∀ s : List UInt8, ∃ w ws, Lib.split s [c] = w :: ws ∧ s = w ++ ws.flatMap (c :: ·)
  | [] => ⟨[], [], rfl, rfl⟩
  | b :: s => by
    obtain ⟨w, ws, h1, h2⟩ := split_join c s
    by_cases h : b = c
    · subst h
      exact ⟨[], w :: ws, by rw [split_eq, h1], by simp [← h2]⟩
    · exact ⟨b :: w, ws, split_ne h s w ws h1, by simp [← h2]⟩
theorem itoa_no {n : Int} {c : UInt8} (hc : c = 32 ∨ c = 10) : c ∉ Lib.itoa n := by
  have h0 : ∀ u : Nat, c ∉ Lib.decDigits u := fun u h => by
    have := dd_digit u u (Nat.le_refl _) _ h
    rcases hc with rfl | rfl <;> revert this <;> decide
  unfold Lib.itoa
  split
  · intro h
    rcases List.mem_cons.1 h with h | h
    · subst h; rcases hc with hc | hc <;> revert hc <;> decide
    · exact h0 _ h
  · exact h0 _
theorem word_no : ∀ k : Fin 9, (32 : UInt8) ∉ wordsL.getD k.1 [] ∧ (10 : UInt8) ∉ wordsL.getD k.1 [] := by decide +kernel
theorem call_no : ∀ k : Fin 6, (32 : UInt8) ∉ callsL.getD k.1 [] ∧ (10 : UInt8) ∉ callsL.getD k.1 [] := by decide +kernel
theorem dig_no : ∀ k : Fin 16, ¬ (32 : UInt8) = digitsL.getD k.1 0 ∧ ¬ (10 : UInt8) = digitsL.getD k.1 0 := by decide +kernel
theorem wordK_no (k : Int) {c : UInt8} (hc : c = 32 ∨ c = 10) : c ∉ wordK k := by
  unfold wordK
  by_cases h : k.toNat < 9
  · have := word_no ⟨k.toNat, h⟩
    rcases hc with rfl | rfl; exact this.1; exact this.2
  · rw [List.getD_eq_getElem?_getD, List.getElem?_eq_none (by have : wordsL.length = 9 := rfl; omega)]; simp
theorem callK_no (k : Int) {c : UInt8} (hc : c = 32 ∨ c = 10) : c ∉ callK k := by
  unfold callK
  by_cases h : k.toNat < 6
  · have := call_no ⟨k.toNat, h⟩
    rcases hc with rfl | rfl; exact this.1; exact this.2
  · rw [List.getD_eq_getElem?_getD, List.getElem?_eq_none (by have : callsL.length = 6 := rfl; omega)]; simp
theorem hexOf_no (s : List UInt8) {c : UInt8} (hc : c = 32 ∨ c = 10) : c ∉ hexOf s := by
  intro h
  unfold hexOf at h
  rcases List.mem_cons.1 h with h | h
  · subst h; rcases hc with hc | hc <;> revert hc <;> decide
  · obtain ⟨b, _, hb⟩ := List.mem_flatMap.1 h
    have h1 := dig_no ⟨b.toNat / 16, by have := b.toNat_lt; omega⟩
    have h2 := dig_no ⟨b.toNat % 16, by omega⟩
    simp only at h1 h2
    simp only [hexB, List.mem_cons, List.not_mem_nil, or_false] at hb
    rcases hc with rfl | rfl
    · exact hb.elim h1.1 h2.1
    · exact hb.elim h1.2 h2.2
theorem wordsOf_no (a : Ac) {c : UInt8} (hc : c = 32 ∨ c = 10) : ∀ x ∈ wordsOf a, c ∉ x := by
  intro x hx
  unfold wordsOf at hx
  rcases List.mem_append.1 hx with hx | hx
  · obtain ⟨n, _, rfl⟩ := List.mem_map.1 hx
    exact itoa_no hc
  · split at hx
    · rcases List.mem_cons.1 hx with rfl | hx
      · exact callK_no _ hc
      · obtain ⟨n, _, rfl⟩ := List.mem_map.1 hx
        exact itoa_no hc
    · split at hx
      · simp only [List.mem_singleton] at hx; subst hx; exact hexOf_no _ hc
      · cases hx
theorem oneL_body {a : Ac} (h : RdA a) : oneL (bodyOf a) = (a, true) := by
  unfold oneL bodyOf blankF
  rw [split_words _ _ (wordK_no _ (.inl rfl)) (wordsOf_no a (.inl rfl)), oneW_rd h]
theorem body_no (a : Ac) : (10 : UInt8) ∉ bodyOf a := by
  intro h
  unfold bodyOf blankF at h
  rcases List.mem_append.1 h with h | h
  · exact wordK_no _ (.inr rfl) h
  · obtain ⟨x, hx, hb⟩ := List.mem_flatMap.1 h
    rcases List.mem_cons.1 hb with h | h
    · revert h; decide
    · exact wordsOf_no a (.inr rfl) x hx h
theorem index_no {c : UInt8} : ∀ {s : List UInt8}, c ∉ s → Lib.index s [c] = -1
  | [], _ => rfl
  | b :: s, h => by rw [idx_ne (fun e => h (by simp [e])), index_no (s := s) fun hm => h (by simp [hm])]; simp
theorem index_at {c : UInt8} : ∀ {s : List UInt8} (r : List UInt8), c ∉ s → Lib.index (s ++ c :: r) [c] = s.length
  | [], r, _ => idx_eq c r
  | b :: s, r, h => by
    rw [List.cons_append, idx_ne (fun e => h (by simp [e])), index_at (s := s) r fun hm => h (by simp [hm]), if_neg (by omega), List.length_cons]; omega
theorem cut_at {c : UInt8} {s : List UInt8} (r : List UInt8) (h : c ∉ s) : Lib.cut (s ++ c :: r) [c] = (s, r, true) := by
  unfold Lib.cut
  rw [index_at r h, if_pos (by omega)]
  simp
theorem cut_no {c : UInt8} {s : List UInt8} (h : c ∉ s) : Lib.cut s [c] = (s, [], false) := by
  unfold Lib.cut
  rw [index_no h, if_neg (by omega)]
theorem cut_cases (c : UInt8) : ∀ s : List UInt8, (c ∉ s ∧ Lib.cut s [c] = (s, [], false)) ∨ ∃ l r, c ∉ l ∧ s = l ++ c :: r ∧ Lib.cut s [c] = (l, r, true) := by
  intro s
  by_cases h : c ∈ s
  · right
    have : ∀ s : List UInt8, c ∈ s → ∃ l r, c ∉ l ∧ s = l ++ c :: r := by
      intro s
      induction s with
      | nil => intro h; cases h
      | cons b s ih =>
        intro h
        by_cases e : b = c
        · subst e; exact ⟨[], s, by simp, rfl⟩
        · obtain ⟨l, r, h1, h2⟩ := ih ((List.mem_cons.1 h).resolve_left fun x => e x.symm)
          refine ⟨b :: l, r, ?_, by rw [h2]; rfl⟩
          intro hm
          rcases List.mem_cons.1 hm with hm | hm
          · exact e hm.symm
          · exact h1 hm
    obtain ⟨l, r, h1, h2⟩ := this s h
    exact ⟨l, r, h1, h2, by rw [h2]; exact cut_at r h1⟩
  · exact .inl ⟨h, cut_no h⟩
/-- Lines that were written are read, whatever stands behind them. -/
theorem readF_lines {S : Int} {L : Nat} : ∀ {lx : List Ac} (n i : Nat) (t : List UInt8) (acc : List Ac), (∀ a ∈ lx, actE S L a = 0 ∧ RdA a) → i + lx.length ≤ 3000 →
    readF S L (n + lx.length) i (linesOf lx ++ t) acc = readF S L n (i + lx.length) t (acc ++ lx)
  | [], n, i, t, acc, _, _ => by simp [linesOf]
  | a :: lx, n, i, t, acc, h, hl => by
    obtain ⟨h1, h2⟩ := h a (by simp)
    have e : linesOf (a :: lx) ++ t = bodyOf a ++ 10 :: (linesOf lx ++ t) := by simp [linesOf, lineOf_body]
    simp only [List.length_cons] at hl
    have e2 : n + (a :: lx).length = (n + lx.length) + 1 := by simp only [List.length_cons]; omega
    have hne : ¬ bodyOf a ++ 10 :: (linesOf lx ++ t) = [] := by simp
    rw [e2, e, readF, if_neg hne, if_neg (by omega), cut_at _ (body_no a), oneL_body h2, h1]
    simp only [Bool.true_eq_false, or_self, if_false, ne_eq, not_true_eq_false]
    rw [readF_lines n (i + 1) t (acc ++ [a]) (fun x hx => h x (by simp [hx])) (by omega)]
    have e3 : i + 1 + lx.length = i + (a :: lx).length := by simp only [List.length_cons]; omega
    rw [e3, List.append_assoc]
    rfl

/-! ### What is read was written -/
theorem nxtW_inv {ws : List (List UInt8)} {b : Bool} (h : (nxtW ws b).2.2 = false) : b = false ∧ ws = (nxtW ws b).1 :: (nxtW ws b).2.1 := by
  cases ws with
  | nil => cases h
  | cons w r => exact ⟨h, rfl⟩
theorem numL_inv {ws : List (List UInt8)} {b : Bool} (h : (numL ws b).2.2 = false) : b = false ∧ ws = Lib.itoa (numL ws b).1 :: (numL ws b).2.1 := by
  unfold numL at h
  simp only [Bool.or_eq_false_iff, decide_eq_false_iff_not, Classical.not_not] at h
  obtain ⟨⟨h1, h2⟩, h3⟩ := h
  obtain ⟨h4, h5⟩ := nxtW_inv h1
  refine ⟨h4, ?_⟩
  unfold numL
  simp only
  rw [h3]
  exact h5
theorem keepL_inv : ∀ {ws : List (List UInt8)} {b : Bool}, (keepL ws b).2.2 = false → b = false ∧ (keepL ws b).2.1 = [] ∧ ws = (keepL ws b).1.map Lib.itoa
  | [], b, h => ⟨h, rfl, rfl⟩
  | w :: r, true, h => by cases h
  | w :: r, false, h => by
    simp only [keepL] at h ⊢
    obtain ⟨h1, h2, h3⟩ := keepL_inv h
    obtain ⟨_, h5⟩ := numL_inv h1
    refine ⟨trivial, h2, ?_⟩
    have e : (numL (w :: r) false).2.1 = r := rfl
    rw [e] at h5
    rw [List.map_cons, ← h3]
    exact h5
theorem digV_inv (c : UInt8) (h : 0 ≤ digV c) : (digV c).toNat < 16 ∧ digitsL.getD (digV c).toNat 0 = c := by
  have : ∀ n : Fin 256, 0 ≤ digV (UInt8.ofNat n.1) → (digV (UInt8.ofNat n.1)).toNat < 16 ∧ digitsL.getD (digV (UInt8.ofNat n.1)).toNat 0 = UInt8.ofNat n.1 := by decide +kernel
  have h2 := this ⟨c.toNat, c.toNat_lt⟩
  simp only [UInt8.ofNat_toNat] at h2
  exact h2 h
theorem unhex_inv : ∀ (n : Nat) (l t : List UInt8), l.length = 2 * n → unhex l = some t → l = t.flatMap hexB
  | 0, l, t, hn, h => by
    obtain rfl := List.length_eq_zero_iff.1 (by omega : l.length = 0)
    simp only [unhex, Option.some.injEq] at h
    subst h; rfl
  | n + 1, l, t, hn, h => by
    match l, hn, h with
    | x :: y :: r, hn, h =>
      simp only [unhex] at h
      split at h
      · cases h
      · rename_i hd
        obtain ⟨t', ht', rfl⟩ := Option.map_eq_some_iff.1 h
        have ih := unhex_inv n r t' (by simp only [List.length_cons] at hn; omega) ht'
        obtain ⟨a1, a2⟩ := digV_inv x (by omega)
        obtain ⟨b1, b2⟩ := digV_inv y (by omega)
        have e0 : (digV x * 16 + digV y).toNat = (digV x).toNat * 16 + (digV y).toNat := by omega
        have e1 : (UInt8.ofNat (digV x * 16 + digV y).toNat).toNat = (digV x).toNat * 16 + (digV y).toNat := by
          rw [e0]; simp; omega
        have e2 : ((digV x).toNat * 16 + (digV y).toNat) / 16 = (digV x).toNat := by omega
        have e3 : ((digV x).toNat * 16 + (digV y).toNat) % 16 = (digV y).toNat := by omega
        have e4 : hexB (UInt8.ofNat (digV x * 16 + digV y).toNat) = [x, y] := by
          unfold hexB; rw [e1, e2, e3, a2, b2]
        rw [List.flatMap_cons, e4, ← ih]; rfl
    | [_], hn, _ => simp only [List.length_cons, List.length_nil] at hn; omega
    | [], hn, _ => simp only [List.length_nil] at hn; omega
theorem textL_inv {ws : List (List UInt8)} {b : Bool} (h : (textL ws b).2.2 = false) : b = false ∧ ws = hexOf (textL ws b).1 :: (textL ws b).2.1 := by
  unfold textL at h ⊢
  split at h
  · rename_i hc
    rw [if_pos hc]
    cases hu : unhex ((nxtW ws b).1.drop 1) with
    | none => rw [hu] at h; cases h
    | some t =>
      rw [hu] at h
      simp only at h ⊢
      obtain ⟨h1, h2⟩ := nxtW_inv h
      refine ⟨h1, ?_⟩
      have hl := unhex_inv ((nxtW ws b).1.length / 2) _ t (by rw [List.length_drop]; omega) hu
      have hh : (nxtW ws b).1 = hexOf t := by
        unfold hexOf
        rw [← hl]
        cases hw : (nxtW ws b).1 with
        | nil => rw [hw] at hc; cases hc.2
        | cons x r => rw [hw] at hc; simp only [List.head?_cons, Option.some.injEq] at hc; rw [hc.2]; rfl
      rw [← hh]
      exact h2
  · cases h
theorem idxW_inv {l : List (List UInt8)} {w : List UInt8} (h : ¬ idxW l w + 1 = 0) : ∃ j : Nat, j < l.length ∧ idxW l w + 1 = (j : Int) + 1 ∧ w = l.getD j [] := by
  unfold idxW idxOf at h ⊢
  split at h
  · rename_i ha
    rw [if_pos ha]
    have hj : l.findIdx (fun x => decide (w = x)) < l.length := List.findIdx_lt_length.2 (by simpa using ha)
    refine ⟨_, hj, rfl, ?_⟩
    have := List.findIdx_getElem (w := hj)
    simp only [decide_eq_true_eq] at this
    rw [List.getD_eq_getElem?_getD, List.getElem?_eq_getElem hj]
    exact this
  · exact absurd rfl h
theorem getD_drop1 {α : Type} (l : List α) (j : Nat) (d : α) : (l.drop 1).getD j d = l.getD (j + 1) d := by
  cases l <;> simp [List.getD]
theorem callK1_inv {k : Int} {ws : List (List UInt8)} {b : Bool} (hk : 0 ≤ k ∧ k ≤ 5) (h : (callK1 k ws b).2.2 = false) : 1 ≤ k ∧ b = false ∧ (callK1 k ws b).1.kind = k ∧ ws = (callVals (callK1 k ws b).1).map Lib.itoa ++ (callK1 k ws b).2.1 := by
  unfold callK1 at h ⊢
  unfold callVals
  rcases (show k = 0 ∨ k = 1 ∨ k = 2 ∨ k = 3 ∨ k = 4 ∨ k = 5 by omega) with rfl | rfl | rfl | rfl | rfl | rfl
  · simp at h
  · simp at h ⊢; exact h
  · simp at h ⊢
    obtain ⟨h1, h2⟩ := numL_inv h
    obtain ⟨h3, h4⟩ := numL_inv h1
    obtain ⟨h5, h6⟩ := numL_inv h3
    exact ⟨h5, by rw [← h2, ← h4]; exact h6⟩
  · simp at h ⊢
    obtain ⟨h1, h2⟩ := numL_inv h
    obtain ⟨h3, h4⟩ := numL_inv h1
    obtain ⟨h5, h6⟩ := numL_inv h3
    exact ⟨h5, by rw [← h2, ← h4]; exact h6⟩
  · simp at h ⊢; exact numL_inv h
  · simp at h ⊢; exact numL_inv h
theorem callL_inv {ws : List (List UInt8)} {b : Bool} (h : (callL ws b).2.2 = false) : b = false ∧ ws = callK (callL ws b).1.kind :: ((callVals (callL ws b).1).map Lib.itoa ++ (callL ws b).2.1) := by
  have hi : 0 ≤ idxW (callsL.drop 1) (nxtW ws b).1 + 1 ∧ idxW (callsL.drop 1) (nxtW ws b).1 + 1 ≤ 5 ∧ (¬ idxW (callsL.drop 1) (nxtW ws b).1 + 1 = 0 → (nxtW ws b).1 = callK (idxW (callsL.drop 1) (nxtW ws b).1 + 1)) := by
    by_cases h0 : idxW (callsL.drop 1) (nxtW ws b).1 + 1 = 0
    · rw [h0]; exact ⟨by decide, by decide, fun h => absurd rfl h⟩
    · obtain ⟨j, hj, h1, h2⟩ := idxW_inv h0
      have : (callsL.drop 1).length = 5 := rfl
      refine ⟨by omega, by omega, fun _ => ?_⟩
      rw [h1, h2]
      unfold callK
      rw [getD_drop1]
      have e : ((j : Int) + 1).toNat = j + 1 := by omega
      rw [e, ← getD_drop1, ← h2]
  unfold callL at h ⊢
  generalize idxW (callsL.drop 1) (nxtW ws b).1 + 1 = k at hi h ⊢
  obtain ⟨h1, h2, h3, h4⟩ := callK1_inv ⟨hi.1, hi.2.1⟩ h
  obtain ⟨h5, h6⟩ := nxtW_inv h2
  refine ⟨h5, ?_⟩
  rw [h3, ← hi.2.2 (by omega), ← h4]
  exact h6
theorem oneK_inv {k : Int} {ws : List (List UInt8)} (hk : 1 ≤ k ∧ k ≤ 8) (h : (oneK k ws false).2.2 = false) (h0 : (oneK k ws false).2.1 = []) : (oneK k ws false).1.kind = k ∧ ws = wordsOf (oneK k ws false).1 := by
  unfold oneK at h h0 ⊢
  unfold wordsOf valsOf
  rcases (show k = 1 ∨ k = 2 ∨ k = 3 ∨ k = 4 ∨ k = 5 ∨ k = 6 ∨ k = 7 ∨ k = 8 by omega) with rfl | rfl | rfl | rfl | rfl | rfl | rfl | rfl
  · simp [oneA] at h h0 ⊢
    obtain ⟨h1, h2⟩ := callL_inv h
    rw [h0, List.append_nil] at h2
    obtain ⟨h3, h4⟩ := numL_inv h1
    obtain ⟨h5, h6⟩ := numL_inv h3
    rw [← h2, ← h4]; exact h6
  · simp [oneP] at h h0 ⊢
    obtain ⟨h1, h2⟩ := numL_inv h
    rw [h0] at h2
    obtain ⟨h3, h4⟩ := numL_inv h1
    obtain ⟨h5, h6⟩ := numL_inv h3
    obtain ⟨h7, h8⟩ := numL_inv h5
    rw [← h2, ← h4, ← h6]; exact h8
  · simp [oneP] at h h0 ⊢
    obtain ⟨h1, h2⟩ := numL_inv h
    rw [h0] at h2
    obtain ⟨h3, h4⟩ := numL_inv h1
    obtain ⟨h5, h6⟩ := numL_inv h3
    obtain ⟨h7, h8⟩ := numL_inv h5
    rw [← h2, ← h4, ← h6]; exact h8
  · simp [oneP] at h h0 ⊢
    obtain ⟨h1, h2⟩ := numL_inv h
    rw [h0] at h2
    obtain ⟨h3, h4⟩ := numL_inv h1
    obtain ⟨h5, h6⟩ := numL_inv h3
    obtain ⟨h7, h8⟩ := numL_inv h5
    rw [← h2, ← h4, ← h6]; exact h8
  · simp at h h0 ⊢; exact h0
  · simp [oneC] at h h0 ⊢
    obtain ⟨h1, h2, h3⟩ := keepL_inv h
    obtain ⟨h4, h5⟩ := numL_inv h1
    rw [← h3]; exact h5
  · simp at h h0 ⊢
    obtain ⟨h1, h2⟩ := numL_inv h
    rw [h0] at h2; exact h2
  · simp [oneT] at h h0 ⊢
    obtain ⟨h1, h2⟩ := textL_inv h
    rw [h0] at h2
    obtain ⟨h3, h4⟩ := numL_inv h1
    obtain ⟨h5, h6⟩ := numL_inv h3
    rw [← h2, ← h4]; exact h6
theorem oneL_inv {s : List UInt8} (h : (oneL s).2 = true) : s = bodyOf (oneL s).1 := by
  obtain ⟨w, ws, h1, h2⟩ := split_join 32 s
  unfold oneL at h ⊢
  rw [h1] at h ⊢
  have ew : oneW (w :: ws) = oneX (idxW (wordsL.drop 1) w + 1) ws false := rfl
  rw [ew] at h ⊢
  by_cases h0 : idxW (wordsL.drop 1) w + 1 = 0
  · rw [h0] at h; cases h
  · skip
    obtain ⟨j, hj, e1, e2⟩ := idxW_inv h0
    have : (wordsL.drop 1).length = 8 := rfl
    rw [e1] at h ⊢
    unfold oneX at h ⊢
    rw [if_neg (by omega)] at h ⊢
    simp only [Bool.and_eq_true, Bool.not_eq_true', decide_eq_true_eq] at h ⊢
    obtain ⟨g1, g2⟩ := oneK_inv (by omega) h.1 h.2
    unfold bodyOf blankF
    rw [g1, ← g2]
    have e3 : wordK ((j : Int) + 1) = w := by
      unfold wordK
      have e : ((j : Int) + 1).toNat = j + 1 := by omega
      rw [e, ← getD_drop1, ← e2]
    rw [e3]
    exact h2
/-- What is read, is what was written; who is refused, has nothing. -/
theorem readF_inv {S : Int} {L : Nat} : ∀ (n i : Nat) (s : List UInt8) (acc : List Ac), i + n = 3001 → acc.length = i → (∀ a ∈ acc, actE S L a = 0) →
    ((readF S L n i s acc).2.2 ≠ 0 ∧ (readF S L n i s acc).1 = []) ∨ ((readF S L n i s acc).2.2 = 0 ∧ (readF S L n i s acc).2.1 = 0 ∧ linesOf (readF S L n i s acc).1 = linesOf acc ++ s ∧ (readF S L n i s acc).1.length ≤ 3000 ∧ ∀ a ∈ (readF S L n i s acc).1, actE S L a = 0) ∨ n = 0
  | 0, i, s, acc, _, _, _ => .inr (.inr rfl)
  | n + 1, i, s, acc, hn, hl, hok => by
    rw [readF]
    split
    · rename_i hs
      subst hs
      exact .inr (.inl ⟨rfl, rfl, by simp, by simp only; omega, hok⟩)
    split
    · exact .inl ⟨by simp, rfl⟩
    rename_i hs hi
    split
    · exact .inl ⟨by simp, rfl⟩
    rename_i hc
    split
    · rename_i he
      exact .inl ⟨he, rfl⟩
    rename_i he
    rcases cut_cases 10 s with ⟨_, h2⟩ | ⟨l, r, h1, h2, h3⟩
    · rw [h2] at hc; exact absurd (.inl rfl) hc
    · rw [h3] at hc he ⊢
      simp only [Bool.true_eq_false, false_or, Bool.not_eq_false] at hc he ⊢
      have hb := oneL_inv hc
      have he := Classical.not_not.1 he
      rcases readF_inv n (i + 1) r (acc ++ [(oneL l).1]) (by omega) (by simp [hl]) (by
        intro a ha
        rcases List.mem_append.1 ha with ha | ha
        · exact hok a ha
        · simp only [List.mem_singleton] at ha; subst ha; exact he) with h | ⟨g1, g2, g3, g4⟩ | h
      · exact .inl h
      · refine .inr (.inl ⟨g1, g2, ?_, g4⟩)
        rw [g3, linesOf_app, h2]
        have e : linesOf [(oneL l).1] = l ++ [10] := by
          simp only [linesOf, List.flatMap_cons, List.flatMap_nil, List.append_nil, lineOf_body]
          rw [← hb]
        rw [e]; simp
      · exact absurd h (by omega)
theorem readL_inv {S : Int} {L : Nat} (s : List UInt8) : ((readL S L s).2.2 ≠ 0 ∧ (readL S L s).1 = []) ∨ ((readL S L s).2.2 = 0 ∧ (readL S L s).2.1 = 0 ∧ linesOf (readL S L s).1 = s ∧ (readL S L s).1.length ≤ 3000 ∧ ∀ a ∈ (readL S L s).1, actE S L a = 0) := by
  unfold readL
  rcases readF_inv (S := S) (L := L) 3001 0 s [] rfl rfl (by simp) with h | h | h
  · exact .inl h
  · right; simpa [linesOf] using h
  · cases h
/-- Acts that may be are read back. -/
theorem rdA_of {S : Int} {L : Nat} {a : Ac} (h : actE S L a = 0) (hS : S ≤ 1000) (hL : L ≤ 1000) : RdA a := by
  have h0 := h
  unfold actE at h
  split at h
  · cases h
  rename_i h1
  split at h
  · cases h
  rename_i h2
  split at h
  · cases h
  rename_i h3
  have h2 := Classical.not_not.1 h2
  have h3 := Classical.not_not.1 h3
  obtain ⟨s1, s2, t1, t2, l1, l2, p1, p2, k1, ln, kk⟩ := h2
  refine ⟨by omega, h3, ?_, fun hk => ?_⟩
  · unfold valsOf
    have hkeep : ∀ n ∈ a.keep, rdN n := by
      intro n hn
      unfold okKeep at kk
      have := List.all_eq_true.1 kk n hn
      simp at this
      exact rdN_nat (by omega)
    repeat' split
    all_goals intro n hn
    all_goals simp only [List.mem_cons, List.not_mem_nil, or_false] at hn
    all_goals first | (rcases hn with rfl | rfl | rfl | rfl <;> exact rdN_nat (by omega)) | (rcases hn with rfl | rfl <;> exact rdN_nat (by omega)) | (rcases hn with rfl | hn; exact rdN_nat (by omega); exact hkeep n hn) | (subst hn; exact rdN_nat (by omega)) | (exact hn.elim)
  · rw [if_pos hk] at h
    unfold callB at h
    split at h
    · cases h
    rename_i q1
    split at h
    · cases h
    rename_i q2
    split at h
    · cases h
    rename_i q3
    have q2 := Classical.not_not.1 q2
    have q3 := Classical.not_not.1 q3
    unfold rngC at q2
    refine ⟨by omega, q3, ?_⟩
    unfold callVals
    repeat' split
    all_goals intro n hn
    all_goals simp only [List.mem_cons, List.not_mem_nil, or_false] at hn
    all_goals first | (rcases hn with rfl | rfl | rfl <;> exact rdN_nat (by omega)) | (subst hn; exact rdN_nat (by omega)) | (exact hn.elim)
theorem readL_lines {S : Int} {L : Nat} {lx : List Ac} (hok : ∀ a ∈ lx, actE S L a = 0) (hl : lx.length ≤ 3000) (hS : S ≤ 1000) (hL : L ≤ 1000) (t : List UInt8) : readL S L (linesOf lx ++ t) = readF S L (3001 - lx.length) lx.length t lx := by
  unfold readL
  have := readF_lines (S := S) (L := L) (lx := lx) (3001 - lx.length) 0 t [] (fun a ha => ⟨hok a ha, rdA_of (hok a ha) hS hL⟩) (by omega)
  have e : 3001 - lx.length + lx.length = 3001 := by omega
  rw [e] at this
  rw [this]
  simp
end Go.Proofs.YthiggepiihoooaaDoor
