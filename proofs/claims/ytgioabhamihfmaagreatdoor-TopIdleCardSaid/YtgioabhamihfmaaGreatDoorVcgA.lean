/-
  A language of operations on data, its conditions, and how the model's code is read into it: definitions, no statement of a row. For every program; no conditions but those that each theorem names.
-/
import Derived.WalkKit
import Derived.Maps.AppendAt
import Derived.Orders
import Derived.Lib.MinMax
import Derived.Laws.CopyRow
import Derived.Laws.StructEq
set_option linter.unusedVariables false
set_option linter.unusedSimpArgs false
namespace Go.Vcg

/-- Data: what a value reads as. The last constructors occur in the state of a walk alone. -/
inductive D where
  | int (k : IntKind) (n : Int)
  | bool (b : Bool)
  | str (s : List UInt8)
  | nilp
  | nl (sz : Nat)
  | agg (cs : List D)
  | tup (ds : List D)
  | fz (sz : Nat) (es : List (List D))
  | clo (f : Nat) (caps : List D)
  | own (k off : Nat)
  | row (k : Nat)
  | elr (k sz i off : Nat)
  | ad (sz : Nat) (es : List (List D)) (i off : Nat)
  | any
  | wh (g : Bool) (d : D)
  | ub
  | vw (k sz lo n cp : Nat)
  | sub (sz : Nat) (es : List (List D))
  | sbx (cs : List D)
  | err (o : Option Bool)
  | xad (cs : List D)
  deriving Inhabited

/-- Block b holds the values vs from cell off on. -/
def CellsAt (w : World) (b off : Nat) (vs : List Value) : Prop :=
  ∃ arr T fr, w.heap[b]? = some (.cells arr T fr) ∧ ∀ (j : Nat) v, vs[j]? = some v → arr[off + j]? = some v

/-- Where the objects of a walk lie. -/
structure Cx where
  ids : Nat → Option Nat
  rv : Nat → Value
  live : Nat → Bool
  ow : Nat → Option Nat

mutual
def Rd (X : Nat → Prop) (w : World) : Option Cx → D → Value → Prop
  | _, .int k n, v => v = .int k n
  | _, .bool b, v => v = .bool b
  | _, .str s, v => v = .string ⟨s.toArray⟩
  | _, .nilp, v => v = .pointer none
  | _, .nl _, v => v = .slice none 0 0
  | c, .agg cs, v => ∃ vs : List Value, v = .agg vs.toArray ∧ RdL X w c cs vs
  | c, .tup cs, v => ∃ vs : List Value, v = .tuple vs.toArray ∧ RdL X w c cs vs
  | _, .fz sz es, v => ((∃ o, v = .slice o 0 0) ∧ es = []) ∨
      ∃ b off cap vs, v = .slice (some ⟨b, off, none⟩) es.length cap ∧ es.length ≤ cap ∧ cap ≤ maxLen ∧ ¬ X b ∧ CellsAt w b off vs ∧ RdE X w sz es vs ∧ (∀ u ∈ vs, u.oneCell' = true)
  | c, .clo f caps, v => ∃ vs : List Value, v = .func (.func f) #[] vs.toArray ∧ RdL X w c caps vs
  | some c, .own k off, v => c.live k = true ∧ ∃ b, c.ids k = some b ∧ v = .pointer (some ⟨b, off, none⟩)
  | some c, .row k, v => c.live k = true ∧ v = c.rv k
  | some c, .elr k sz i off, v => c.live k = true ∧ ∃ b, c.ids k = some b ∧ v = .pointer (some ⟨b, i * sz + off, none⟩)
  | _, .ad sz es i off, v => ∃ b o vs, v = .pointer (some ⟨b, o + (i * sz + off), none⟩) ∧ ¬ X b ∧ i < es.length ∧ CellsAt w b o vs ∧ RdE X w sz es vs
  | _, .any, _ => True
  | c, .wh g d, v => (g = true → Rd X w c d v) ∧ (g = false → v = undef)
  | _, .ub, v => ∃ b, v = .bool b
  | _, .xad cs, v => ∃ b T fr vs, v = .pointer (some ⟨b, 0, none⟩) ∧ ¬ X b ∧ w.heap[b]? = some (.cells (List.toArray vs) T fr) ∧ RdL X w none cs vs
  | _, .err o, v => (v = .nilIface ∧ o ≠ some false) ∨ ((∃ t x, v = .iface t x) ∧ o ≠ some true)
  | some c, .vw k sz lo n cp, v => c.live k = true ∧ ∃ b o, c.ids k = some b ∧ v = .slice (some ⟨b, o, none⟩) n cp ∧ (0 < cp → o = lo * sz)
  | _, .sub _ _, _ => False
  | _, .sbx _, _ => False
  | none, .own _ _, _ => False
  | none, .row _, _ => False
  | none, .elr _ _ _ _, _ => False
  | none, .vw _ _ _ _ _, _ => False
def RdL (X : Nat → Prop) (w : World) : Option Cx → List D → List Value → Prop
  | _, [], vs => vs = []
  | c, d :: ds, vs => ∃ v r, vs = v :: r ∧ Rd X w c d v ∧ RdL X w c ds r
def RdE (X : Nat → Prop) (w : World) (sz : Nat) : List (List D) → List Value → Prop
  | [], vs => vs = []
  | e :: es, vs => ∃ v1 v2, vs = v1 ++ v2 ∧ v1.length = sz ∧ RdL X w none e v1 ∧ RdE X w sz es v2
end

/-- Of what was there nothing has turned, but for the blocks in Y. -/
structure Ext (Y : Nat → Prop) (w w' : World) : Prop where
  os : w'.os = w.os
  tape : w'.tape = w.tape
  output : w'.output = w.output
  size : w.heap.size ≤ w'.heap.size
  block : ∀ k, k < w.heap.size → ¬ Y k → w'.heap[k]? = w.heap[k]?

theorem Ext.refl (Y : Nat → Prop) (w : World) : Ext Y w w := ⟨rfl, rfl, rfl, Nat.le_refl _, fun _ _ _ => rfl⟩
theorem Ext.trans {Y : Nat → Prop} {a b c : World} (h : Ext Y a b) (g : Ext Y b c) : Ext Y a c :=
  ⟨g.os.trans h.os, g.tape.trans h.tape, g.output.trans h.output, Nat.le_trans h.size g.size,
    fun k hk hY => (g.block k (Nat.lt_of_lt_of_le hk h.size) hY).trans (h.block k hk hY)⟩
/-- Only old blocks matter: Y may be turned above the old size. -/
theorem Ext.mono {Y Y' : Nat → Prop} {a b : World} (h : Ext Y a b) (hY : ∀ k, k < a.heap.size → Y k → Y' k) : Ext Y' a b :=
  ⟨h.os, h.tape, h.output, h.size, fun k hk hn => h.block k hk fun hy => hn (hY k hk hy)⟩
/-- One step more, of blocks that are new or in Y. -/
theorem Ext.trans' {Y Z : Nat → Prop} {a b c : World} (h : Ext Y a b) (g : Ext Z b c) (hZ : ∀ k, Z k → k < b.heap.size → a.heap.size ≤ k ∨ Y k) : Ext Y a c :=
  ⟨g.os.trans h.os, g.tape.trans h.tape, g.output.trans h.output, Nat.le_trans h.size g.size,
    fun k hk hY => (g.block k (Nat.lt_of_lt_of_le hk h.size) (fun hz => (hZ k hz (Nat.lt_of_lt_of_le hk h.size)).elim (fun h1 => by omega) hY)).trans (h.block k hk hY)⟩
theorem Ext.of_below {w w' : World} (h : RowKit.Below w.heap.size w w') (Y : Nat → Prop) : Ext Y w w' :=
  ⟨h.os, h.tape, h.output, h.size, fun k hk _ => h.block k hk⟩
theorem Ext.below {Y : Nat → Prop} {w w' : World} (h : Ext Y w w') (hY : ∀ k, k < w.heap.size → ¬ Y k) : RowKit.Below w.heap.size w w' :=
  ⟨h.os, h.tape, h.output, h.size, fun k hk => h.block k hk (hY k hk)⟩

theorem CellsAt.lt {w : World} {b off : Nat} {vs : List Value} (h : CellsAt w b off vs) : b < w.heap.size := by
  obtain ⟨arr, T, fr, h, _⟩ := h
  exact (Array.getElem?_eq_some_iff.1 h).1
theorem CellsAt.ext {w w' : World} {Y : Nat → Prop} {b off : Nat} {vs : List Value} (h : CellsAt w b off vs) (hE : Ext Y w w') (hY : ¬ Y b) : CellsAt w' b off vs := by
  have hb := h.lt
  obtain ⟨arr, T, fr, h, g⟩ := h
  exact ⟨arr, T, fr, by rw [hE.block b hb hY]; exact h, g⟩

/-- How one place of objects goes over into another. -/
def Cx.le : Option Cx → Option Cx → Prop
  | none, _ => True
  | some c, some c' => ∀ k, c.live k = true → c'.live k = true ∧ c'.ids k = c.ids k ∧ c'.rv k = c.rv k
  | some _, none => False

theorem Cx.le_refl : ∀ c : Option Cx, Cx.le c c
  | none => trivial
  | some _ => fun _ h => ⟨h, rfl, rfl⟩

section
variable {X X' Y : Nat → Prop} {w w' : World}
mutual
theorem Rd.mono (hE : Ext Y w w') (hY : ∀ b, b < w.heap.size → Y b → X b) (hX : ∀ b, b < w.heap.size → X' b → X b) :
    ∀ (d : D) {c c' : Option Cx} {v : Value}, Cx.le c c' → Rd X w c d v → Rd X' w' c' d v
  | .int k n, _, _, v, _, h => by simpa only [Rd] using h
  | .bool b, _, _, v, _, h => by simpa only [Rd] using h
  | .str s, _, _, v, _, h => by simpa only [Rd] using h
  | .nilp, _, _, v, _, h => by simpa only [Rd] using h
  | .nl _, _, _, v, _, h => by simpa only [Rd] using h
  | .agg cs, _, _, v, hc, h => by
    simp only [Rd] at h ⊢
    obtain ⟨vs, h1, h2⟩ := h
    exact ⟨vs, h1, RdL.mono hE hY hX cs hc h2⟩
  | .tup cs, _, _, v, hc, h => by
    simp only [Rd] at h ⊢
    obtain ⟨vs, h1, h2⟩ := h
    exact ⟨vs, h1, RdL.mono hE hY hX cs hc h2⟩
  | .fz sz es, _, _, v, _, h => by
    simp only [Rd] at h ⊢
    rcases h with h | ⟨b, off, cap, vs, h1, h2, h3, h4, h5, h6, h7⟩
    · exact .inl h
    · exact .inr ⟨b, off, cap, vs, h1, h2, h3, fun hx => h4 (hX b h5.lt hx), h5.ext hE (fun hy => h4 (hY b h5.lt hy)), RdE.mono hE hY hX es h6, h7⟩
  | .clo f caps, _, _, v, hc, h => by
    simp only [Rd] at h ⊢
    obtain ⟨vs, h1, h2⟩ := h
    exact ⟨vs, h1, RdL.mono hE hY hX caps hc h2⟩
  | .own k off, c, c', v, hc, h => by
    cases c <;> cases c' <;> simp only [Rd] at h ⊢ <;> try exact hc.elim
    obtain ⟨hl, b, hb, hv⟩ := h
    obtain ⟨e1, e2, _⟩ := hc k hl
    exact ⟨e1, b, e2.trans hb, hv⟩
  | .row k, c, c', v, hc, h => by
    cases c <;> cases c' <;> simp only [Rd] at h ⊢ <;> try exact hc.elim
    obtain ⟨hl, hv⟩ := h
    obtain ⟨e1, _, e3⟩ := hc k hl
    exact ⟨e1, hv.trans e3.symm⟩
  | .elr k sz i off, c, c', v, hc, h => by
    cases c <;> cases c' <;> simp only [Rd] at h ⊢ <;> try exact hc.elim
    obtain ⟨hl, b, hb, hv⟩ := h
    obtain ⟨e1, e2, _⟩ := hc k hl
    exact ⟨e1, b, e2.trans hb, hv⟩
  | .ad sz es i off, _, _, v, _, h => by
    simp only [Rd] at h ⊢
    obtain ⟨b, o, vs, h1, h2, h3, h4, h5⟩ := h
    exact ⟨b, o, vs, h1, fun hx => h2 (hX b h4.lt hx), h3, h4.ext hE (fun hy => h2 (hY b h4.lt hy)), RdE.mono hE hY hX es h5⟩
  | .any, _, _, v, _, h => by simp only [Rd]
  | .wh g d, _, _, v, hc, h => by
    simp only [Rd] at h ⊢
    exact ⟨fun hg => Rd.mono hE hY hX d hc (h.1 hg), h.2⟩
  | .ub, _, _, v, _, h => by simpa only [Rd] using h
  | .err _, _, _, v, _, h => by simpa only [Rd] using h
  | .xad cs, _, _, v, _, h => by
    simp only [Rd] at h ⊢
    obtain ⟨b, T, fr, vs, h1, h2, h3, h4⟩ := h
    have hlt : b < w.heap.size := (Array.getElem?_eq_some_iff.1 h3).1
    exact ⟨b, T, fr, vs, h1, fun hx => h2 (hX b hlt hx), by rw [hE.block b hlt (fun hy => h2 (hY b hlt hy))]; exact h3, RdL.mono hE hY hX cs (c := none) (c' := none) trivial h4⟩
  | .sub _ _, _, _, v, _, h => by simp only [Rd] at h
  | .sbx _, _, _, v, _, h => by simp only [Rd] at h
  | .vw k sz lo n cp, c, c', v, hc, h => by
    cases c <;> cases c' <;> simp only [Rd] at h ⊢ <;> try exact hc.elim
    obtain ⟨hl, b, o, hb, hv⟩ := h
    obtain ⟨e1, e2, _⟩ := hc k hl
    exact ⟨e1, b, o, e2.trans hb, hv⟩
theorem RdL.mono (hE : Ext Y w w') (hY : ∀ b, b < w.heap.size → Y b → X b) (hX : ∀ b, b < w.heap.size → X' b → X b) :
    ∀ (ds : List D) {c c' : Option Cx} {vs : List Value}, Cx.le c c' → RdL X w c ds vs → RdL X' w' c' ds vs
  | [], _, _, _, _, h => by simpa only [RdL] using h
  | d :: ds, _, _, _, hc, h => by
    simp only [RdL] at h ⊢
    obtain ⟨v, r, h1, h2, h3⟩ := h
    exact ⟨v, r, h1, Rd.mono hE hY hX d hc h2, RdL.mono hE hY hX ds hc h3⟩
theorem RdE.mono (hE : Ext Y w w') (hY : ∀ b, b < w.heap.size → Y b → X b) (hX : ∀ b, b < w.heap.size → X' b → X b) {sz : Nat} :
    ∀ (es : List (List D)) {vs : List Value}, RdE X w sz es vs → RdE X' w' sz es vs
  | [], _, h => by simpa only [RdE] using h
  | e :: es, _, h => by
    simp only [RdE] at h ⊢
    obtain ⟨v1, v2, h1, h2, h3, h4⟩ := h
    exact ⟨v1, v2, h1, h2, RdL.mono hE hY hX e (c := none) (c' := none) trivial h3, RdE.mono hE hY hX es h4⟩
end
end

section
variable {X : Nat → Prop} {w : World} {c : Option Cx}
theorem RdL.length : ∀ {ds : List D} {vs : List Value}, RdL X w c ds vs → vs.length = ds.length
  | [], _, h => by simp only [RdL] at h; simp [h]
  | d :: ds, _, h => by
    simp only [RdL] at h
    obtain ⟨v, r, rfl, _, h3⟩ := h
    simp [h3.length]
theorem RdL.append : ∀ {ds es : List D} {vs us : List Value}, RdL X w c ds vs → RdL X w c es us → RdL X w c (ds ++ es) (vs ++ us)
  | [], _, _, _, h, g => by simp only [RdL] at h; subst h; simpa using g
  | d :: ds, _, _, _, h, g => by
    simp only [RdL] at h
    obtain ⟨v, r, rfl, h2, h3⟩ := h
    simp only [List.cons_append, RdL]
    exact ⟨v, _, rfl, h2, h3.append g⟩
theorem RdL.get : ∀ {ds : List D} {vs : List Value}, RdL X w c ds vs → ∀ (i : Nat) d, ds[i]? = some d → ∃ v, vs[i]? = some v ∧ Rd X w c d v
  | [], _, _, i, d, hd => by simp at hd
  | d :: ds, _, h, i, d', hd => by
    simp only [RdL] at h
    obtain ⟨v, r, rfl, h2, h3⟩ := h
    cases i with
    | zero => simp at hd; subst hd; exact ⟨v, by simp, h2⟩
    | succ i => simpa using h3.get i d' (by simpa using hd)
theorem RdL.take (n : Nat) : ∀ {ds : List D} {vs : List Value}, RdL X w c ds vs → RdL X w c (ds.take n) (vs.take n) := by
  induction n with
  | zero => intro ds vs _; simp [RdL]
  | succ n ih =>
    intro ds vs h
    cases ds with
    | nil => simp only [RdL] at h; simp [h, RdL]
    | cons d ds =>
      simp only [RdL] at h
      obtain ⟨v, r, rfl, h2, h3⟩ := h
      simp only [List.take_succ_cons, RdL]
      exact ⟨v, _, rfl, h2, ih h3⟩
theorem RdL.drop (n : Nat) : ∀ {ds : List D} {vs : List Value}, RdL X w c ds vs → RdL X w c (ds.drop n) (vs.drop n) := by
  induction n with
  | zero => intro ds vs h; simpa using h
  | succ n ih =>
    intro ds vs h
    cases ds with
    | nil => simp only [RdL] at h; simp [h, RdL]
    | cons d ds =>
      simp only [RdL] at h
      obtain ⟨v, r, rfl, h2, h3⟩ := h
      simpa using ih h3
theorem RdL.set (i : Nat) {d : D} {v : Value} (hd : Rd X w c d v) : ∀ {ds : List D} {vs : List Value}, RdL X w c ds vs → RdL X w c (ds.set i d) (vs.set i v) := by
  induction i with
  | zero =>
    intro ds vs h
    cases ds with
    | nil => simp only [RdL] at h; simp [h, RdL]
    | cons e ds =>
      simp only [RdL] at h
      obtain ⟨u, r, rfl, h2, h3⟩ := h
      simp only [List.set_cons_zero, RdL]
      exact ⟨_, _, rfl, hd, h3⟩
  | succ i ih =>
    intro ds vs h
    cases ds with
    | nil => simp only [RdL] at h; simp [h, RdL]
    | cons e ds =>
      simp only [RdL] at h
      obtain ⟨u, r, rfl, h2, h3⟩ := h
      simp only [List.set_cons_succ, RdL]
      exact ⟨_, _, rfl, h2, ih h3⟩

theorem RdE.length {sz : Nat} : ∀ {es : List (List D)} {vs : List Value}, RdE X w sz es vs → vs.length = es.length * sz
  | [], _, h => by simp only [RdE] at h; simp [h]
  | e :: es, _, h => by
    simp only [RdE] at h
    obtain ⟨v1, v2, rfl, h2, _, h4⟩ := h
    simp [h2, h4.length, Nat.succ_mul, Nat.add_comm]
theorem RdE.append {sz : Nat} : ∀ {es fs : List (List D)} {vs us : List Value}, RdE X w sz es vs → RdE X w sz fs us → RdE X w sz (es ++ fs) (vs ++ us)
  | [], _, _, _, h, g => by simp only [RdE] at h; subst h; simpa using g
  | e :: es, _, _, _, h, g => by
    simp only [RdE] at h
    obtain ⟨v1, v2, rfl, h2, h3, h4⟩ := h
    simp only [List.cons_append, RdE]
    exact ⟨v1, v2 ++ _, by simp, h2, h3, h4.append g⟩
/-- The cells of element i. -/
theorem RdE.get {sz : Nat} : ∀ {es : List (List D)} {vs : List Value}, RdE X w sz es vs → ∀ (i : Nat) e, es[i]? = some e → RdL X w none e ((vs.drop (i * sz)).take sz) ∧ ((vs.drop (i * sz)).take sz).length = sz
  | [], _, _, i, e, he => by simp at he
  | e :: es, _, h, i, e', he => by
    simp only [RdE] at h
    obtain ⟨v1, v2, rfl, h2, h3, h4⟩ := h
    cases i with
    | zero =>
      simp at he; subst he
      have : ((v1 ++ v2).drop (0 * sz)).take sz = v1 := by rw [Nat.zero_mul, List.drop_zero, ← h2, List.take_left]
      rw [this]; exact ⟨h3, h2⟩
    | succ i =>
      have := h4.get i e' (by simpa using he)
      have e1 : (v1 ++ v2).drop ((i + 1) * sz) = v2.drop (i * sz) := by
        rw [List.drop_append, h2, Nat.succ_mul, Nat.add_sub_cancel, List.drop_eq_nil_of_le (by omega)]; simp
      rw [e1]; exact this
theorem RdE.drop {sz : Nat} (n : Nat) : ∀ {es : List (List D)} {vs : List Value}, RdE X w sz es vs → RdE X w sz (es.drop n) (vs.drop (n * sz)) := by
  induction n with
  | zero => intro es vs h; simpa using h
  | succ n ih =>
    intro es vs h
    cases es with
    | nil => simp only [RdE] at h; simp [h, RdE]
    | cons e es =>
      simp only [RdE] at h
      obtain ⟨v1, v2, rfl, h2, h3, h4⟩ := h
      have e1 : (v1 ++ v2).drop ((n + 1) * sz) = v2.drop (n * sz) := by
        rw [List.drop_append, h2, Nat.succ_mul, Nat.add_sub_cancel, List.drop_eq_nil_of_le (by omega)]; simp
      rw [e1]; simpa using ih h4
theorem RdE.take {sz : Nat} (n : Nat) : ∀ {es : List (List D)} {vs : List Value}, RdE X w sz es vs → RdE X w sz (es.take n) (vs.take (n * sz)) := by
  induction n with
  | zero => intro es vs h; simp [RdE]
  | succ n ih =>
    intro es vs h
    cases es with
    | nil => simp only [RdE] at h; simp [h, RdE]
    | cons e es =>
      simp only [RdE] at h
      obtain ⟨v1, v2, rfl, h2, h3, h4⟩ := h
      have e1 : (v1 ++ v2).take ((n + 1) * sz) = v1 ++ v2.take (n * sz) := by
        rw [List.take_append, h2, Nat.succ_mul, Nat.add_sub_cancel, List.take_of_length_le (by omega)]
      simp only [List.take_succ_cons, RdE]
      exact ⟨v1, _, e1, h2, h3, ih h4⟩
theorem RdE.set {sz : Nat} (i : Nat) {e : List D} {us : List Value} (he : RdL X w none e us) (hl : us.length = sz) :
    ∀ {es : List (List D)} {vs : List Value}, RdE X w sz es vs → i < es.length → RdE X w sz (es.set i e) (vs.take (i * sz) ++ us ++ vs.drop (i * sz + sz)) := by
  induction i with
  | zero =>
    intro es vs h hi
    cases es with
    | nil => simp at hi
    | cons f es =>
      simp only [RdE] at h
      obtain ⟨v1, v2, rfl, h2, h3, h4⟩ := h
      simp only [List.set_cons_zero, RdE]
      refine ⟨us, v2, ?_, hl, he, h4⟩
      simp [← h2]
  | succ i ih =>
    intro es vs h hi
    cases es with
    | nil => simp at hi
    | cons f es =>
      simp only [RdE] at h
      obtain ⟨v1, v2, rfl, h2, h3, h4⟩ := h
      have := ih h4 (by simpa using hi)
      simp only [List.set_cons_succ, RdE]
      refine ⟨v1, _, ?_, h2, h3, this⟩
      rw [List.take_append, List.drop_append, h2, Nat.succ_mul]
      rw [List.take_of_length_le (by omega), List.drop_eq_nil_of_le (by omega)]
      simp only [Nat.add_sub_cancel, List.nil_append, List.append_assoc]
end
end Go.Vcg

namespace Go.Vcg

/-- An operand: a slot, a constant, a package-level variable's address. -/
inductive Opd where
  | t (i : Nat)
  | c (d : D)
  | g (i : Nat)
  deriving Inhabited

/-- The kind of a plain cell. -/
inductive Kd where
  | int | bool | str
  deriving DecidableEq, Inhabited

/-- An operation, its types resolved. -/
inductive IOp where
  | mov (x : Opd)
  | pick (c a b : Opd)
  | alloc (cs : List D)
  | box (x : Opd)
  | build (zero : List D) (parts : List (Nat × Nat × Opd))
  | bslice (sz : Nat) (zero : List (List D)) (parts : List (Nat × Opd))
  | load (n : Nat) (ag : Bool) (x : Opd)
  | store (n : Nat) (x v : Opd)
  | faddr (off : Nat) (x : Opd)
  | field (off n : Nat) (ag : Bool) (x : Opd)
  | iaddr (sz : Nat) (x i : Opd)
  | iarr (len sz : Nat) (x i : Opd)
  | bin (op : BinOp) (x y : Opd)
  | eqa (neg : Bool) (ks : List Kd) (x y : Opd)
  | eqb (neg : Bool) (x y : Opd)
  | un (op : UnOp) (x : Opd)
  | conv (k : IntKind) (x : Opd)
  | nilc (x : Opd)
  | ext (x : Opd) (i : Nat)
  | len (x : Opd)
  | lens (x : Opd)
  | mm (mx : Bool) (x y : Opd)
  | append (sz bytes : Nat) (x y : Opd)
  | slc (sz : Nat) (x : Opd) (lo hi : Option Opd)
  | slc3 (sz : Nat) (x : Opd) (lo : Option Opd) (hi mx : Opd)
  | emp (sz : Nat) (x : Opd)
  | mks (sz bytes : Nat) (zero : List D) (n m : Opd)
  | convw (x : Opd)
  | bts (x : Opd)
  | sadd (x y : Opd)
  | sidx (x i : Opd)
  | sslc (x : Opd) (lo hi : Option Opd)
  | slca (len sz : Nat) (x lo : Opd)
  | eqs (neg : Bool) (x y : Opd)
  | call (f : Nat) (args : List Opd)
  | callx (f : Nat) (args : List Opd)
  | calln (f : Nat) (args : List Opd)
  | mkclo (f : Nat) (caps : List Opd)
  | callc (x : Opd) (args : List Opd)
  | nileq (neg : Bool) (x : Opd)
  | ileq (neg : Bool) (x : Opd)
  | bnew (U e : TypeId)
  | bs0 (sz : Nat)
  | capo (x : Opd)
  | appz (sz bytes : Nat) (zero : List D) (x n : Opd)
  | clr (sz : Nat) (zero : List D) (x : Opd)
  | cpy (sz : Nat) (x y : Opd)
  | ovl (x y : Opd)
  | gfz (t : Nat)
  | gop (t : Nat)
  | gcl (t : Nat)
  | gou (t : Nat) (l : List (Nat × Nat))
  | gcx (t : Nat) (l : List Nat)
  | gsx
  | gsr
  | gbx (t : Nat)
  | bad
  deriving Inhabited

structure IOper where
  dst : Option Nat
  guard : Option (Nat × Bool)
  op : IOp
  deriving Inhabited

inductive IC where
  | skip
  | reg (ops : List IOper)
  | alt (ls : List (List IOper))
  | seq (a b : IC)
  | seqc (a b : IC)
  | mrk (ops : List IOper) (b : IC)
  | mrq (b : IC) (ops : List IOper)
  | bad
  | cond (c : Opd) (a b : IC)
  | block (id : Nat) (b : IC)
  | loop (b : IC)
  | exit (id : Nat)
  | ret
  deriving Inhabited

/-- An object of the walk's own. -/
inductive Ob where
  | box (cs : List D)
  | row (sz : Nat) (es : List (List D))
  | arr (sz : Nat) (es : List (List D))
  | rws (sz : Nat) (es : List (List D))
  | rwh (sz : Nat) (es : List (List D)) (i : Nat) (e : List D)
  | ars (sz : Nat) (es : List (List D))
  | bld (U e : TypeId) (bs : List UInt8)
  deriving Inhabited

structure St where
  tm : List D
  ob : List (Nat × Ob)

/-- What a function answers: where 'pre' holds of its arguments, F of them. -/
structure HSp where
  pre : List D → List (Nat × Ob) → Prop
  F : List D → List (Nat × Ob) → D × List (Nat × Ob)

structure Sp where
  pre : List D → Prop
  F : List D → D
  fr : Bool := false
  hx : Option HSp := none

structure Tb where
  sp : Nat → Option Sp
  gl : Nat → D

/-- Names from here on are those of objects that were handed in. -/
@[irreducible] def baseN : Nat := 1000000000

def D.un : D → D
  | .wh _ d => d
  | d => d
def D.gu : D → Bool
  | .wh g _ => g
  | _ => true
/-- One cell, of no object of the walk's. -/
def D.cell : D → Bool
  | .int .. | .bool _ | .str _ | .nilp | .nl _ | .fz .. | .ub | .err _ => true
  | _ => false
/-- One cell. -/
def D.cell' : D → Bool
  | .int .. | .bool _ | .str _ | .nilp | .nl _ | .fz .. | .clo .. | .ad .. | .own .. | .elr .. | .row _ | .ub | .err _ | .vw .. => true
  | _ => false
/-- One cell, or rows of its own. -/
def D.cellS : D → Bool
  | .sub _ _ | .sbx _ => true
  | d => d.cell
/-- What is loaded of a cell that has rows of its own. -/
def D.scr : D → D
  | .sub _ _ | .sbx _ => .any
  | d => d
def scrL : List D → List D
  | [] => []
  | d :: r => d.scr :: scrL r
mutual
/-- What it reads as from then on when it stays as it is. -/
def D.fzs : D → D
  | .sub sz es => .fz sz es
  | .sbx cs => .ad cs.length [fzsL cs] 0 0
  | .nl sz => .fz sz []
  | d => d
def fzsL : List D → List D
  | [] => []
  | d :: r => d.fzs :: fzsL r
end
def outE : List (List D) → List (List D)
  | [] => []
  | e :: r => fzsL e :: outE r
def D.cells : D → List D
  | .agg cs => cs
  | d => [d]

/-! The slots' reading and writing, shut against the kernel's own reckoning (it would be slow). -/
theorem gtO_ex : ∃ f : List D → Nat → D, f = fun l t => l.getD t .any := ⟨_, rfl⟩
theorem stO_ex : ∃ f : List D → Nat → D → List D, f = fun l t d => l.set t d := ⟨_, rfl⟩
noncomputable def gtO : List D → Nat → D := Classical.choose gtO_ex
noncomputable def stO : List D → Nat → D → List D := Classical.choose stO_ex
theorem gtO_eq (l : List D) (t : Nat) : gtO l t = l.getD t .any := congrFun (congrFun (Classical.choose_spec gtO_ex) l) t
theorem stO_eq (l : List D) (t : Nat) (d : D) : stO l t d = l.set t d := congrFun (congrFun (congrFun (Classical.choose_spec stO_ex) l) t) d

noncomputable section
def St.get (s : St) (t : Nat) : D := gtO s.tm t
def St.lk (s : St) (k : Nat) : Option Ob := s.ob.lookup k
def St.set (s : St) (dst : Option Nat) (d : D) : St :=
  match dst with
  | some t => { s with tm := stO s.tm t d }
  | none => s
def obPut (k : Nat) (o : Ob) : List (Nat × Ob) → List (Nat × Ob)
  | [] => [(k, o)]
  | (j, p) :: r => if j = k then (k, o) :: r else (j, p) :: obPut k o r
def obDel (k : Nat) : List (Nat × Ob) → List (Nat × Ob)
  | [] => []
  | (j, p) :: r => if j = k then obDel k r else (j, p) :: obDel k r

mutual
/-- The references to object k are let go. -/
def D.forget (k : Nat) : D → D
  | .own j o => if j = k then .any else .own j o
  | .row j => if j = k then .any else .row j
  | .elr j sz i o => if j = k then .any else .elr j sz i o
  | .vw j sz lo n cp => if j = k then .any else .vw j sz lo n cp
  | .agg cs => .agg (forgetL k cs)
  | .tup cs => .tup (forgetL k cs)
  | .clo f cs => .clo f (forgetL k cs)
  | .wh g d => .wh g (D.forget k d)
  | d => d
def forgetL (k : Nat) : List D → List D
  | [] => []
  | d :: r => D.forget k d :: forgetL k r
end
def Ob.forget (k : Nat) : Ob → Ob
  | .box cs => .box (forgetL k cs)
  | .rwh sz es i e => .rwh sz es i (forgetL k e)
  | o => o
def forgetO (k : Nat) : List (Nat × Ob) → List (Nat × Ob)
  | [] => []
  | (j, o) :: r => (j, o.forget k) :: forgetO k r

def Opd.ev (T : Tb) (s : St) : Opd → D
  | .t i => s.get i
  | .c d => d
  | .g i => T.gl i

/-- cs with the cells ds from off on. -/
def splice (cs : List D) (off : Nat) (ds : List D) : List D := cs.take off ++ ds ++ cs.drop (off + ds.length)

def inR : IntKind → Int → Prop
  | .i64, n => -9223372036854775808 ≤ n ∧ n ≤ 9223372036854775807
  | .u8, n => 0 ≤ n ∧ n ≤ 255
  | .u64, n => 0 ≤ n ∧ n ≤ 18446744073709551615
  | .i32, n => -2147483648 ≤ n ∧ n ≤ 2147483647
  | _, _ => False

/-- The bits' operations, as the model has them. -/
def bitsI (op : BinOp) (k : IntKind) (x y : Int) : Int :=
  match op with
  | .and => k.wrap (BitVec.ofInt k.bits x &&& BitVec.ofInt k.bits y).toNat
  | .or => k.wrap (BitVec.ofInt k.bits x ||| BitVec.ofInt k.bits y).toNat
  | .xor => k.wrap (BitVec.ofInt k.bits x ^^^ BitVec.ofInt k.bits y).toNat
  | _ => 0

/-- Are two lists of plain cells equal? -/
def eqCells : List Kd → List D → List D → Option Bool
  | [], [], [] => some true
  | .int :: ks, .int k a :: r, .int k' b :: r' => if k = k' then (eqCells ks r r').map ((a == b) && ·) else none
  | .bool :: ks, .bool a :: r, .bool b :: r' => (eqCells ks r r').map ((a == b) && ·)
  | .str :: ks, .str a :: r, .str b :: r' => (eqCells ks r r').map ((a == b) && ·)
  | _, _, _ => none

/-- nil is an empty slice, to whoever looks. -/
def D.pl : D → D
  | .nl sz => .fz sz []
  | d => d

def shMax : IntKind → Int
  | .i64 => 63
  | _ => 7
/-- A shift, as the model has it. -/
def shD (op : BinOp) (k : IntKind) (a b : Int) : Option (Prop × D) :=
  match op with
  | .shl => some (0 ≤ b ∧ b ≤ shMax k ∧ inR k (a * 2 ^ b.toNat), .int k (a * 2 ^ b.toNat))
  | .shr => some (0 ≤ b ∧ b ≤ shMax k, .int k (a / 2 ^ b.toNat))
  | _ => none

def isShift : BinOp → Bool
  | .shl | .shr => true
  | _ => false

def binD (op : BinOp) : D → D → Option (Prop × D)
  | .int k a, .int k' b =>
    if isShift op = true then shD op k a b else
    if k = k' then
      match op with
      | .add => some (inR k (a + b), .int k (a + b))
      | .sub => some (inR k (a - b), .int k (a - b))
      | .mul => some (inR k (a * b), .int k (a * b))
      | .quo => some (0 < b ∧ inR k a, .int k (a.tdiv b))
      | .rem => some (b ≠ 0, .int k (a.tmod b))
      | .and => some (True, .int k (bitsI .and k a b))
      | .or => some (True, .int k (bitsI .or k a b))
      | .eql => some (True, .bool (a == b))
      | .neq => some (True, .bool (a != b))
      | .lss => some (True, .bool (decide (a < b)))
      | .leq => some (True, .bool (decide (a ≤ b)))
      | .gtr => some (True, .bool (decide (a > b)))
      | .geq => some (True, .bool (decide (a ≥ b)))
      | _ => none
    else none
  | .any, .int _ _ => some (False, .bool false)
  | .int _ _, .any => some (False, .bool false)
  | _, _ => none

/-- The cells of element i of a row. -/
def elem (es : List (List D)) (i : Nat) : List D := es.getD i []

/-- n cells from off on, as a value. -/
def cut (ag : Bool) (off n : Nat) (cs : List D) : D :=
  match ag with
  | true => .agg ((cs.drop off).take n)
  | false => cs.getD off .any

inductive Eff where
  | mv2 (k k2 : Nat) (o : Ob)
  | val (d : D)
  | new (o : Ob) (ptr : Bool)
  | put (k : Nat) (o : Ob)
  | mv (k : Option Nat) (o : Ob)
  | frz (ks : List Nat) (d : D)
  | cal (ks : List Nat) (d : D) (ob : List (Nat × Ob))
  | putv (k : Nat) (o : Ob) (d : D)
  | news (ob : List (Nat × Ob)) (d : D)

mutual
/-- The objects that a datum speaks of. -/
def D.keys : D → List Nat
  | .own k _ => [k]
  | .row k => [k]
  | .elr k _ _ _ => [k]
  | .vw k _ _ _ _ => [k]
  | .agg cs => keysL cs
  | .tup cs => keysL cs
  | .clo _ cs => keysL cs
  | .wh _ d => D.keys d
  | _ => []
def keysL : List D → List Nat
  | [] => []
  | d :: r => D.keys d ++ keysL r
end
mutual
/-- The rows that a datum speaks of. -/
def D.rows : D → List Nat
  | .row k => [k]
  | .agg cs => rowsL cs
  | .tup cs => rowsL cs
  | .clo _ cs => rowsL cs
  | .wh _ d => D.rows d
  | _ => []
def rowsL : List D → List Nat
  | [] => []
  | d :: r => D.rows d ++ rowsL r
end
def obKeys : Option Ob → List Nat
  | some (.box cs) => keysL cs
  | some (.rwh _ _ _ e) => keysL e
  | _ => []
def addKeys : List Nat → List Nat → List Nat
  | [], acc => acc
  | k :: r, acc => addKeys r (if acc.contains k then acc else acc ++ [k])
/-- The objects that can be come to. -/
def reach (lk : Nat → Option Ob) : Nat → List Nat → List Nat
  | 0, ks => ks
  | n + 1, ks => reach lk n (addKeys (ks.flatMap fun k => obKeys (lk k)) ks)
/-- Where k stands among ks. -/
def pos (k : Nat) : List Nat → Option Nat
  | [] => none
  | j :: r => if j = k then some 0 else (pos k r).map (· + 1)
mutual
/-- Objects by the names that m has for them. -/
def D.ren (m : Nat → Option Nat) : D → D
  | .own k o => match m k with | some j => .own j o | none => .any
  | .row k => match m k with | some j => .row j | none => .any
  | .elr k sz i o => match m k with | some j => .elr j sz i o | none => .any
  | .vw k sz lo n cp => match m k with | some j => .vw j sz lo n cp | none => .any
  | .agg cs => .agg (renL m cs)
  | .tup cs => .tup (renL m cs)
  | .clo f cs => .clo f (renL m cs)
  | .wh g d => .wh g (D.ren m d)
  | d => d
def renL (m : Nat → Option Nat) : List D → List D
  | [] => []
  | d :: r => D.ren m d :: renL m r
end
def Ob.ren (m : Nat → Option Nat) : Ob → Ob
  | .box cs => .box (renL m cs)
  | .rwh sz es i e => .rwh sz es i (renL m e)
  | o => o
/-- The names in the call, and back. -/
def inM (ks : List Nat) (k : Nat) : Option Nat := (pos k ks).map (baseN + ·)
def outM (j : Nat) (ks : List Nat) (k : Nat) : Option Nat := if k < baseN then some (10000 * (j + 1) + k) else ks[k - baseN]?
def inObs (lk : Nat → Option Ob) (ks : List Nat) : Nat → List Nat → List (Nat × Ob)
  | _, [] => []
  | i, k :: r => match lk k with | some o => (baseN + i, o.ren (inM ks)) :: inObs lk ks (i + 1) r | none => inObs lk ks (i + 1) r
def outObs (j : Nat) (ks : List Nat) : List (Nat × Ob) → List (Nat × Ob)
  | [] => []
  | (k, o) :: r => match outM j ks k with | some n => (n, o.ren (outM j ks)) :: outObs j ks r | none => outObs j ks r
/-- Those of ks that are no more. -/
def goneK (ob : List (Nat × Ob)) : Nat → List Nat → List Nat
  | _, [] => []
  | i, k :: r => if (ob.lookup (baseN + i)).isSome then goneK ob (i + 1) r else k :: goneK ob (i + 1) r
def apartN : List Nat → Bool
  | [] => true
  | k :: r => !r.contains k && apartN r
/-- Names that may come back. -/
def okNames (n : Nat) (ob : List (Nat × Ob)) : Bool := apartN (ob.map (·.1)) && ob.all fun p => decide (p.1 < 10000) || (decide (baseN ≤ p.1) && decide (p.1 < baseN + n))
def okNms (n : Nat) : List (Nat × Ob) → Bool
  | [] => true
  | (k, _) :: r => (decide (k < 10000) || (decide (baseN ≤ k) && decide (k < baseN + n))) && okNms n r
def obNms : List (Nat × Ob) → List Nat
  | [] => []
  | (k, _) :: r => k :: obNms r
theorem okNames_eq (n : Nat) (ob : List (Nat × Ob)) : okNames n ob = (apartN (obNms ob) && okNms n ob) := by
  have h1 : ∀ l : List (Nat × Ob), l.map (·.1) = obNms l := fun l => by
    induction l with
    | nil => rfl
    | cons p r ih => simp only [List.map_cons, obNms, ih]
  have h2 : ∀ l : List (Nat × Ob), (l.all fun p => decide (p.1 < 10000) || (decide (baseN ≤ p.1) && decide (p.1 < baseN + n))) = okNms n l := fun l => by
    induction l with
    | nil => rfl
    | cons p r ih => simp only [List.all_cons, okNms, ih]
  rw [okNames, h1, h2]

mutual
/-- What a value reads as when the walk's rows are let go: rows and nil as slices. -/
def D.out (lk : Nat → Option Ob) : D → D
  | .row k => match lk k with | some (.row sz es) => .fz sz es | some (.rws sz es) => .fz sz (outE es) | _ => .row k
  | .nl sz => .fz sz []
  | .agg cs => .agg (outL lk cs)
  | .tup cs => .tup (outL lk cs)
  | .clo f cs => .clo f (outL lk cs)
  | d => d
def outL (lk : Nat → Option Ob) : List D → List D
  | [] => []
  | d :: r => D.out lk d :: outL lk r
end
mutual
/-- No object of the walk's own in it. -/
def D.clos : D → Bool
  | .own _ _ | .row _ | .elr _ _ _ _ | .vw _ _ _ _ _ | .wh _ _ | .sub _ _ | .sbx _ => false
  | .agg cs => closL cs
  | .tup cs => closL cs
  | .clo _ cs => closL cs
  | _ => true
def closL : List D → Bool
  | [] => true
  | d :: r => D.clos d && closL r
end
mutual
/-- Rows ks stay as they are from then on. -/
def D.frz (lk : Nat → Option Ob) (ks : List Nat) : D → D
  | .row k => if ks.contains k then (match lk k with | some (.row sz es) => .fz sz es | some (.rws sz es) => .fz sz (outE es) | _ => .any) else .row k
  | .own k o => if ks.contains k then (match lk k with | some (.box cs) => if (closL (outL lk cs) && (rowsL cs).all ks.contains && !cs.isEmpty) = true then .ad cs.length [outL lk cs] 0 o else .any | _ => .any) else .own k o
  | .elr k sz i o => if ks.contains k then .any else .elr k sz i o
  | .vw k sz lo n cp => if ks.contains k then .any else .vw k sz lo n cp
  | .agg cs => .agg (frzL lk ks cs)
  | .tup cs => .tup (frzL lk ks cs)
  | .clo f cs => .clo f (frzL lk ks cs)
  | .wh g d => .wh g (D.frz lk ks d)
  | d => d
def frzL (lk : Nat → Option Ob) (ks : List Nat) : List D → List D
  | [] => []
  | d :: r => D.frz lk ks d :: frzL lk ks r
end
def Ob.frz (lk : Nat → Option Ob) (ks : List Nat) : Ob → Ob
  | .box cs => .box (frzL lk ks cs)
  | .rwh sz es i e => .rwh sz es i (frzL lk ks e)
  | o => o
def frzO (lk : Nat → Option Ob) (ks : List Nat) : List (Nat × Ob) → List (Nat × Ob)
  | [] => []
  | (k, o) :: r => if ks.contains k then frzO lk ks r else (k, o.frz lk ks) :: frzO lk ks r
def St.frz (s : St) (ks : List Nat) : St := ⟨frzL s.lk ks s.tm, frzO s.lk ks s.ob⟩

/-- Bytes, one behind the other. -/
def bytesOf : List (List D) → Option (List UInt8)
  | [] => some []
  | [.int .u8 n] :: r => (bytesOf r).map (UInt8.ofNat n.toNat :: ·)
  | _ => none

def forgetLs : List Nat → List D → List D
  | [], l => l
  | k :: r, l => forgetLs r (forgetL k l)
def dropObs : List Nat → List (Nat × Ob) → List (Nat × Ob)
  | [], l => l
  | k :: r, l => dropObs r (forgetO k (obDel k l))
def putObs : List (Nat × Ob) → List (Nat × Ob) → List (Nat × Ob)
  | [], l => l
  | (k, o) :: r, l => obPut k o (putObs r l)

def fillParts (ev : Opd → D) : List (Nat × Nat × Opd) → List D → Option (Prop × List D)
  | [], cs => some (True, cs)
  | (off, n, x) :: r, cs =>
    match fillParts ev r (splice cs off (ev x).cells) with
    | some (φ, out) => some ((ev x).cells.length = n ∧ (ev x).cells.all D.cell' = true ∧ off + n ≤ cs.length ∧ φ, out)
    | none => none

def fillRows (sz : Nat) (ev : Opd → D) : List (Nat × Opd) → List (List D) → Option (Prop × List (List D))
  | [], es => some (True, es)
  | (i, x) :: r, es =>
    match fillRows sz ev r (es.set i ((ev x).cells.map D.pl)) with
    | some (φ, out) => some ((ev x).cells.length = sz ∧ (ev x).cells.all D.cell = true ∧ i < es.length ∧ φ, out)
    | none => none

/-- What is appended. -/
def newsOf (sz : Nat) (lk : Nat → Option Ob) : D → Option (List (List D))
  | .fz sz' es => if sz' = sz then some es else none
  | .nl _ => some []
  | .row k => match lk k with | some (.row sz' es) => if sz' = sz then some es else none | _ => none
  | .vw k sz' lo n cp => match lk k with | some (.arr sz2 es) => if sz' = sz ∧ sz2 = sz ∧ n ≤ cp ∧ lo + n ≤ es.length ∧ ((es.drop lo).take n).all (fun e => e.all D.cell) = true then some ((es.drop lo).take n) else none | _ => none
  | _ => none

/-- A view's first n elements. -/
def vwCut (n : Nat) : D → D
  | .vw k sz lo m cp => .vw k sz lo (min m n) cp
  | d => d

mutual
/-- The objects that are spoken of are there. -/
def D.lv (lk : Nat → Option Ob) : D → Bool
  | .own k _ => (lk k).isSome
  | .row k => (lk k).isSome
  | .elr k _ _ _ => (lk k).isSome
  | .vw k _ _ _ _ => (lk k).isSome
  | .agg cs => lvL lk cs
  | .tup cs => lvL lk cs
  | .clo _ cs => lvL lk cs
  | _ => true
def lvL (lk : Nat → Option Ob) : List D → Bool
  | [] => true
  | d :: r => D.lv lk d && lvL lk r
end
mutual
/-- No row of the walk's own in it. -/
def D.norow : D → Bool
  | .row _ => false
  | .agg cs => norowL cs
  | .tup cs => norowL cs
  | .clo _ cs => norowL cs
  | _ => true
def norowL : List D → Bool
  | [] => true
  | d :: r => D.norow d && norowL r
end
mutual
/-- It hangs on no memory. -/
def D.scal : D → Bool
  | .int _ _ | .bool _ | .str _ | .nilp | .nl _ => true
  | .agg cs => scalL cs
  | .tup cs => scalL cs
  | _ => false
def scalL : List D → Bool
  | [] => true
  | d :: r => D.scal d && scalL r
end

/-- A call that is handed objects. -/
def hcall (hs : HSp) (lk : Nat → Option Ob) (ds : List D) (ks : List Nat) : Option (Prop × Eff) :=
  some (hs.pre (renL (inM ks) ds) (inObs lk ks 0 ks) ∧ apartN ks = true ∧ (ks.all fun k => (lk k).isSome) = true ∧ okNames ks.length (hs.F (renL (inM ks) ds) (inObs lk ks 0 ks)).2 = true,
    .cal ks (hs.F (renL (inM ks) ds) (inObs lk ks 0 ks)).1 (hs.F (renL (inM ks) ds) (inObs lk ks 0 ks)).2)

/-- A call: what is owed, what it does. -/
def actx (T : Tb) (f : Nat) (vals : List D) (lk : Nat → Option Ob) : Option (Prop × Eff) :=
  match T.sp f with
  | none => none
  | some sp =>
    if lvL lk vals = true then
      match sp.hx with
      | none => some (sp.pre (outL lk vals) ∧ closL (outL lk vals) = true, .frz (rowsL vals) (sp.F (outL lk vals)))
      | some hs => hcall hs lk vals (reach lk 3 (addKeys (keysL vals) []))
    else none
/-- The number under which a function that is called as a value stands. -/
def cnum (T : Tb) (f : Nat) : Nat := if (T.sp f).isSome then f else 1000000 + f
def actc (T : Tb) (x : D) (vals : List D) (lk : Nat → Option Ob) : Option (Prop × Eff) :=
  match x with
  | .clo f caps => if f < 1000000 then actx T (cnum T f) (vals ++ caps) lk else none
  | _ => none
/-- es, with ns from i on. -/
def over (es : List (List D)) (i : Nat) (ns : List (List D)) : List (List D) := es.take i ++ ns ++ es.drop (i + ns.length)

/-- An operation on data. -/
def act (T : Tb) (op : IOp) (ev : Opd → D) (lk : Nat → Option Ob) : Option (Prop × Eff) :=
  match op with
  | .mov x => some (True, .val (ev x))
  | .pick _ _ _ => none
  | .alloc cs => some (True, .new (.box cs) true)
  | .box x => some ((ev x).cells.all D.cell' = true, .new (.box (ev x).cells) true)
  | .build zero parts =>
    match fillParts ev parts zero with
    | some (φ, cs) => some (φ, .val (.agg cs))
    | none => none
  | .bslice sz zero parts =>
    match fillRows sz ev parts zero with
    | some (φ, es) => some (φ, .new (.row sz es) false)
    | none => none
  | .load n ag x =>
    match ev x with
    | .own k off =>
      match lk k with
      | some (.box cs) => some (off + n ≤ cs.length ∧ (ag = false → n = 1), .val (cut ag off n cs))
      | _ => none
    | .elr k sz i off =>
      match lk k with
      | some (.row sz' es) => some (sz' = sz ∧ i < es.length ∧ off + n ≤ sz ∧ (ag = false → n = 1), .val (cut ag off n (elem es i)))
      | some (.arr sz' es) => some (sz' = sz ∧ i < es.length ∧ off + n ≤ sz ∧ (ag = false → n = 1), .val (cut ag off n (elem es i)))
      | some (.rws sz' es) => some (sz' = sz ∧ i < es.length ∧ off + n ≤ sz ∧ (ag = false → n = 1), .val (cut ag off n (scrL (elem es i))))
      | some (.rwh sz' _ i' e) => some (sz' = sz ∧ i = i' ∧ off + n ≤ sz ∧ (ag = false → n = 1), .val (cut ag off n (scrL e)))
      | _ => none
    | .ad sz es i off => some (i < es.length ∧ off + n ≤ sz ∧ (ag = false → n = 1), .val (cut ag off n (elem es i)))
    | _ => none
  | .store n x v =>
    match ev x with
    | .own k off =>
      match lk k with
      | some (.box cs) => some (off + n ≤ cs.length ∧ (ev v).cells.length = n ∧ (ev v).cells.all D.cell' = true, .put k (.box (splice cs off (ev v).cells)))
      | _ => none
    | .elr k sz i off =>
      match lk k with
      | some (.row sz' es) => some (sz' = sz ∧ i < es.length ∧ off + n ≤ sz ∧ (ev v).cells.length = n ∧ (ev v).cells.all D.cell = true,
          .put k (.row sz' (es.set i (splice (elem es i) off ((ev v).cells.map D.pl)))))
      | some (.arr sz' es) => some (sz' = sz ∧ i < es.length ∧ off + n ≤ sz ∧ (ev v).cells.length = n ∧ (ev v).cells.all D.cell = true,
          .put k (.arr sz' (es.set i (splice (elem es i) off ((ev v).cells.map D.pl)))))
      | some (.rws sz' es) => some (sz' = sz ∧ i < es.length ∧ off + n ≤ sz ∧ (ev v).cells.length = n ∧ (ev v).cells.all D.cell = true,
          .put k (.rws sz' (es.set i (splice (elem es i) off (ev v).cells))))
      | some (.rwh sz' es i' e) => some (sz' = sz ∧ i = i' ∧ off + n ≤ sz ∧ (ev v).cells.length = n ∧ (ev v).cells.all D.cell' = true,
          .put k (.rwh sz' es i' (splice e off (ev v).cells)))
      | _ => none
    | _ => none
  | .faddr off x =>
    match ev x with
    | .own k o => some (True, .val (.own k (o + off)))
    | .elr k sz i o => some (True, .val (.elr k sz i (o + off)))
    | .ad sz es i o => some (True, .val (.ad sz es i (o + off)))
    | _ => none
  | .field off n ag x =>
    match ev x with
    | .agg cs => some (off + n ≤ cs.length ∧ (ag = false → n = 1), .val (cut ag off n cs))
    | _ => none
  | .iaddr sz x i =>
    match ev x, ev i with
    | .fz sz' es, .int _ n => some (sz' = sz ∧ 0 ≤ n ∧ n < es.length, .val (.ad sz es n.toNat 0))
    | .row k, .int _ n =>
      match lk k with
      | some (.row sz' es) => some (sz' = sz ∧ 0 ≤ n ∧ n < es.length, .val (.elr k sz n.toNat 0))
      | some (.rws sz' es) => some (sz' = sz ∧ 0 ≤ n ∧ n < es.length, .val (.elr k sz n.toNat 0))
      | some (.rwh sz' es _ _) => some (sz' = sz ∧ 0 ≤ n ∧ n < es.length, .val (.elr k sz n.toNat 0))
      | _ => none
    | .vw k sz' lo m cp, .int _ n => some (sz' = sz ∧ 0 ≤ n ∧ n < m ∧ m ≤ cp, .val (.elr k sz (lo + n.toNat) 0))
    | _, _ => none
  | .iarr len sz x i =>
    match ev x, ev i with
    | .ad sz' es 0 0, .int _ n => some (sz' = sz ∧ es.length = len ∧ 0 ≤ n ∧ n < es.length, .val (.ad sz es n.toNat 0))
    | _, _ => none
  | .bin op x y => (binD op (ev x) (ev y)).map fun r => (r.1, .val r.2)
  | .eqa neg ks x y =>
    match ev x, ev y with
    | .agg a, .agg b => (eqCells ks a b).map fun r => (True, .val (.bool (if neg then !r else r)))
    | _, _ => none
  | .eqb neg x y =>
    match ev x, ev y with
    | .bool a, .bool b => some (True, .val (.bool (if neg then a != b else a == b)))
    | _, _ => none
  | .un op x =>
    match op, ev x with
    | .not, .bool b => some (True, .val (.bool (!b)))
    | .neg, .int k n => some (inR k (-n), .val (.int k (-n)))
    | .not, .any => some (False, .val (.bool false))
    | _, _ => none
  | .conv k x =>
    match ev x with
    | .int _ n => some (inR k n, .val (.int k n))
    | _ => none
  | .nilc x =>
    match ev x with
    | .own k o => some (True, .val (.own k o))
    | .elr k sz i o => some (True, .val (.elr k sz i o))
    | .ad sz es i o => some (True, .val (.ad sz es i o))
    | _ => none
  | .ext x i =>
    match ev x with
    | .tup ds => some (i < ds.length, .val (ds.getD i .any))
    | _ => none
  | .len x =>
    match ev x with
    | .fz _ es => some (True, .val (.int .i64 es.length))
    | .nl _ => some (True, .val (.int .i64 0))
    | .row k =>
      match lk k with
      | some (.row _ es) => some (True, .val (.int .i64 es.length))
      | some (.rws _ es) => some (True, .val (.int .i64 es.length))
      | some (.rwh _ es _ _) => some (True, .val (.int .i64 es.length))
      | _ => none
    | .vw _ _ _ n _ => some (True, .val (.int .i64 n))
    | _ => none
  | .lens x =>
    match ev x with
    | .str s => some (True, .val (.int .i64 s.length))
    | _ => none
  | .mm mx x y =>
    match ev x, ev y with
    | .int k a, .int k' b => if k = k' then some (True, .val (.int k (if mx then max a b else min a b))) else none
    | _, _ => none
  | .append sz bytes x y =>
    match ev x, newsOf sz lk (ev y) with
    | .row k, some ns =>
      match lk k with
      | some (.row sz' es) => some (sz' = sz ∧ ev y ≠ .row k ∧ (es.length + ns.length) * bytes ≤ 140737488355328 ∧ es.length + ns.length ≤ 9223372036854775807, .mv (some k) (.row sz (es ++ ns)))
      | some (.rws sz' es) => some (sz' = sz ∧ ev y ≠ .row k ∧ (es.length + ns.length) * bytes ≤ 140737488355328 ∧ es.length + ns.length ≤ 9223372036854775807, .mv (some k) (.rws sz (es ++ ns)))
      | _ => none
    | .row k, none =>
      match lk k, ev y with
      | some (.rws sz' es), .row k2 =>
        match lk k2 with
        | some (.rws sz2 ns) => some (sz' = sz ∧ sz2 = sz ∧ k2 ≠ k ∧ (es.length + ns.length) * bytes ≤ 140737488355328 ∧ es.length + ns.length ≤ 9223372036854775807, .mv2 k k2 (.rws sz (es ++ ns)))
        | _ => none
      | _, _ => none
    | .vw k sz' lo n cp, none =>
      match ev y with
      | .vw k2 sz3 lo2 n2 cp2 =>
        match lk k2 with
        | some (.ars sz2 es) => some (k2 = k ∧ sz' = sz ∧ sz2 = sz ∧ sz3 = sz ∧ n + n2 ≤ cp ∧ lo + cp ≤ es.length ∧ n2 ≤ cp2 ∧ lo2 + n2 ≤ es.length ∧ ((es.drop lo2).take n2).all (fun e => e.all D.cellS) = true,
            .putv k (.ars sz (over (over es lo2 (((es.drop lo2).take n2).map scrL)) (lo + n) ((es.drop lo2).take n2))) (.vw k sz lo (n + n2) cp))
        | _ => none
      | _ => none
    | .nl _, some ns => some (ns.length * bytes ≤ 140737488355328 ∧ ns.length ≤ 9223372036854775807, .mv none (.row sz ns))
    | .vw k sz' lo n cp, some ns =>
      match lk k with
      | some (.arr sz2 es) => some (sz' = sz ∧ sz2 = sz ∧ n + ns.length ≤ cp ∧ lo + cp ≤ es.length, .putv k (.arr sz (over es (lo + n) ns)) (.vw k sz lo (n + ns.length) cp))
      | _ => none
    | _, _ => none
  | .slc n x lo hi =>
    match ev x, lo.map ev, hi.map ev with
    | .fz sz es, none, none => some (sz = n, .val (.fz sz es))
    | .fz sz es, some (.int _ l), none => some (sz = n ∧ 0 ≤ l ∧ l ≤ es.length, .val (.fz sz (es.drop l.toNat)))
    | .fz sz es, none, some (.int _ h) => some (sz = n ∧ 0 ≤ h ∧ h ≤ es.length, .val (.fz sz (es.take h.toNat)))
    | .fz sz es, some (.int _ l), some (.int _ h) => some (sz = n ∧ 0 ≤ l ∧ l ≤ h ∧ h ≤ es.length, .val (.fz sz ((es.take h.toNat).drop l.toNat)))
    | .nl sz, none, some (.int _ 0) => some (sz = n, .val (.nl sz))
    | .vw k sz b _ cp, none, some (.int _ h) => some (sz = n ∧ 0 ≤ h ∧ h ≤ cp, .val (.vw k sz b h.toNat cp))
    | .vw k sz b m cp, some (.int _ l), none => some (sz = n ∧ 0 ≤ l ∧ l ≤ m ∧ m ≤ cp, .val (.vw k sz (b + l.toNat) (m - l.toNat) (cp - l.toNat)))
    | .vw k sz b _ cp, some (.int _ l), some (.int _ h) => some (sz = n ∧ 0 ≤ l ∧ l ≤ h ∧ h ≤ cp, .val (.vw k sz (b + l.toNat) (h.toNat - l.toNat) (cp - l.toNat)))
    | .row k, some (.int _ l), none =>
      match lk k with
      | some (.row sz es) => some (sz = n ∧ 0 ≤ l ∧ l ≤ es.length, .val .any)
      | _ => none
    | _, _, _ => none
  | .slc3 n x lo hi mx =>
    match ev x, lo.map ev, ev hi, ev mx with
    | .fz sz es, none, .int _ h, .int _ m => some (sz = n ∧ 0 ≤ h ∧ h ≤ m ∧ m ≤ es.length, .val (.fz sz (es.take h.toNat)))
    | .fz sz es, some (.int _ l), .int _ h, .int _ m => some (sz = n ∧ 0 ≤ l ∧ l ≤ h ∧ h ≤ m ∧ m ≤ es.length, .val (.fz sz ((es.take h.toNat).drop l.toNat)))
    | .vw _ sz _ _ cp, some (.int _ l), .int _ h, .int _ m => some (sz = n ∧ 0 ≤ l ∧ l ≤ h ∧ h ≤ m ∧ m ≤ cp, .val .any)
    | _, _, _, _ => none
  | .emp n x =>
    match ev x with
    | .fz _ _ => some (True, .new (.row n []) false)
    | .nl _ => some (True, .new (.row n []) false)
    | _ => none
  | .mks sz bytes zero n m =>
    match ev n, ev m with
    | .int .i64 a, .int .i64 b => some (0 ≤ a ∧ a = b ∧ a ≤ 4294967296 ∧ a * bytes ≤ 140737488355328, .new (.row sz (List.replicate a.toNat (zero.map D.pl))) false)
    | _, _ => none
  | .convw x =>
    match ev x with
    | .int _ n => some (True, .val (.int .u8 (n % 256)))
    | _ => none
  | .bts x =>
    match ev x with
    | .fz sz es => (bytesOf es).map fun l => (sz = 1, .val (.str l))
    | .nl _ => some (True, .val (.str []))
    | .row k =>
      match lk k with
      | some (.row sz es) => (bytesOf es).map fun l => (sz = 1, .val (.str l))
      | _ => none
    | _ => none
  | .sadd x y =>
    match ev x, ev y with
    | .str a, .str b => some (a.length + b.length ≤ 9223372036854775807, .val (.str (a ++ b)))
    | _, _ => none
  | .sidx x i =>
    match ev x, ev i with
    | .str a, .int _ n => some (0 ≤ n ∧ n < a.length, .val (.int .u8 ((a.getD n.toNat 0).toNat : Nat)))
    | _, _ => none
  | .sslc x lo hi =>
    match ev x, (lo.map ev).getD (.int .i64 0), hi.map ev with
    | .str a, .int _ l, none => some (0 ≤ l ∧ l ≤ a.length, .val (.str (a.drop l.toNat)))
    | .str a, .int _ l, some (.int _ h) => some (0 ≤ l ∧ l ≤ h ∧ h ≤ a.length, .val (.str ((a.take h.toNat).drop l.toNat)))
    | _, _, _ => none
  | .slca len sz x lo =>
    match ev x, ev lo with
    | .ad sz' es 0 0, .int _ n => some (sz' = sz ∧ es.length = len ∧ 0 ≤ n ∧ n < es.length ∧ es.length ≤ 1000000 ∧ (es.all fun e => e.all D.cell) = true, .val (.fz sz (es.drop n.toNat)))
    | _, _ => none
  | .eqs neg x y =>
    match ev x, ev y with
    | .str a, .str b => some (True, .val (.bool (if neg then a != b else a == b)))
    | _, _ => none
  | .call _ _ => none
  | .calln _ _ => none
  | .callx f as => actx T f (as.map ev) lk
  | .callc x as => actc T (ev x) (as.map ev) lk
  | .mkclo f caps => some (True, .val (.clo f (caps.map ev)))
  | .nileq neg x =>
    match ev x with
    | .fz _ es => some (True, .val (if es.isEmpty = true then .ub else .bool neg))
    | .nl _ => some (True, .val (.bool (!neg)))
    | .row k =>
      match lk k with
      | some (.row _ es) => some (True, .val (if es.isEmpty = true then .ub else .bool neg))
      | _ => none
    | .vw _ _ _ _ _ => some (True, .val (.bool neg))
    | _ => none
  | .bnew U e => some (True, .new (.bld U e []) true)
  | .ileq neg x =>
    match ev x with
    | .err (some b) => some (True, .val (.bool (if neg then !b else b)))
    | .err none => some (True, .val .ub)
    | _ => none
  | .bs0 sz => some (True, .new (.row sz []) false)
  | .capo x =>
    match ev x with
    | .vw _ _ _ _ cp => some (True, .val (.int .i64 cp))
    | .nl _ => some (True, .val (.int .i64 0))
    | _ => none
  | .appz sz bytes zero x n =>
    match ev x, ev n with
    | .nl _, .int .i64 m => some (0 ≤ m ∧ m * bytes ≤ 140737488355328 ∧ m ≤ 9223372036854775807, .mv none (.row sz (List.replicate m.toNat zero)))
    | .vw k sz' lo l cp, .int .i64 m =>
      match lk k with
      | some (.arr sz2 es) => some (sz' = sz ∧ sz2 = sz ∧ 0 ≤ m ∧ cp < l + m.toNat ∧ l ≤ cp ∧ (l + m) * bytes ≤ 140737488355328 ∧ l + m ≤ 9223372036854775807 ∧ lo + l ≤ es.length ∧ ((es.drop lo).take l).all (fun e => e.all D.cell) = true,
          .mv none (.row sz ((es.drop lo).take l ++ List.replicate m.toNat zero)))
      | _ => none
    | _, _ => none
  | .clr sz zero x =>
    match ev x with
    | .vw k sz' lo n cp =>
      match lk k with
      | some (.arr sz2 es) => some (sz' = sz ∧ sz2 = sz ∧ n ≤ cp ∧ lo + n ≤ es.length, .putv k (.arr sz (over es lo (List.replicate n zero))) (.tup []))
      | some (.ars sz2 es) => some (sz' = sz ∧ sz2 = sz ∧ n ≤ cp ∧ lo + n ≤ es.length, .putv k (.ars sz (over es lo (List.replicate n zero))) (.tup []))
      | _ => none
    | .fz _ [] => some (True, .val (.tup []))
    | _ => none
  | .ovl x y =>
    match ev x, ev y with
    | .row k, .vw k' _ _ _ _ =>
      match lk k, lk k' with
      | some (.row _ _), some (.arr sz2 es2) => some (k ≠ k' ∧ 0 < es2.length ∧ 0 < sz2, .val (.bool false))
      | _, _ => none
    | _, _ => none
  | .cpy sz x y =>
    match ev x with
    | .vw k sz' lo n cp =>
      match lk k, newsOf sz lk (vwCut n (ev y)) with
      | some (.arr sz2 es), some ns => some (sz' = sz ∧ sz2 = sz ∧ n ≤ cp ∧ lo + n ≤ es.length, .putv k (.arr sz (over es lo (ns.take n))) (.int .i64 (min ns.length n : Nat)))
      | _, _ => none
    | _ => none
  | .gfz _ | .gop _ | .gcl _ | .gou _ _ | .gcx _ _ | .gsx | .gsr | .gbx _ => none
  | .bad => none

def IOp.opds : IOp → List Opd
  | .mov x | .box x | .load _ _ x | .faddr _ x | .field _ _ _ x | .un _ x | .conv _ x | .nilc x | .ext x _ | .len x | .lens x => [x]
  | .pick c a b => [c, a, b]
  | .alloc _ => []
  | .build _ ps => ps.map (·.2.2)
  | .bslice _ _ ps => ps.map (·.2)
  | .store _ x v => [x, v]
  | .iaddr _ x i | .iarr _ _ x i => [x, i]
  | .bin _ x y | .eqa _ _ x y | .eqb _ x y | .mm _ x y => [x, y]
  | .append _ _ x y => [x, y]
  | .slc _ x lo hi => x :: (lo.toList ++ hi.toList)
  | .slc3 _ x lo hi mx => x :: hi :: mx :: lo.toList
  | .emp _ x | .convw x | .bts x => [x]
  | .mks _ _ _ n m => [n, m]
  | .sadd x y | .eqs _ x y | .sidx x y => [x, y]
  | .sslc x lo hi => x :: (lo.toList ++ hi.toList)
  | .slca _ _ x lo => [x, lo]
  | .call _ as => as
  | .callx _ as => as
  | .calln _ as => as
  | .callc x as => x :: as
  | .mkclo _ caps => caps
  | .nileq _ x | .ileq _ x | .capo x => [x]
  | .bs0 _ | .bnew _ _ => []
  | .appz _ _ _ x n => [x, n]
  | .clr _ _ x => [x]
  | .cpy _ x y => [x, y]
  | .ovl x y => [x, y]
  | .gfz _ | .gop _ | .gcl _ | .gou _ _ | .gcx _ _ | .gsx | .gsr | .gbx _ => []
  | .bad => []

def gus (T : Tb) (s : St) : List Opd → Prop
  | [] => True
  | x :: r => (x.ev T s).gu = true ∧ gus T s r

def wrapD (g : Option (Nat × Bool)) (G : Bool) (d : D) : D :=
  match g with
  | none => d
  | some _ => .wh G d

/-- Is the operation carried out? -/
def gd (s : St) : Option (Nat × Bool) → Option Bool
  | none => some true
  | some (t, want) =>
    match s.get t with
    | .bool b => some (b == want)
    | .wh g (.bool b) => some (g && (b == want))
    | _ => none

def pickD (c : Bool) : D → D → Option D
  | .bool a, .bool b => some (.bool (if c then a else b))
  | .int k a, .int k' b => if k = k' then some (.int k (if c then a else b)) else none
  | _, _ => none

/-- Are the names of what comes back free? -/
def namesOK (lk : Nat → Option Ob) (j : Nat) (ob : List (Nat × Ob)) : Bool := ob.all fun p => decide (baseN ≤ p.1) || (!(lk (10000 * (j + 1) + p.1)).isSome && decide (10000 * (j + 1) + p.1 < baseN))
theorem namesOK_nil (lk : Nat → Option Ob) (j : Nat) : namesOK lk j [] = true := rfl
theorem namesOK_cons (lk : Nat → Option Ob) (j k : Nat) (o : Ob) (r : List (Nat × Ob)) : namesOK lk j ((k, o) :: r) = ((decide (baseN ≤ k) || (!(lk (10000 * (j + 1) + k)).isSome && decide (10000 * (j + 1) + k < baseN))) && namesOK lk j r) := rfl
def freeOK (lk : Nat → Option Ob) (ob : List (Nat × Ob)) : Bool := ob.all fun p => !(lk p.1).isSome && decide (p.1 < baseN)
theorem freeOK_nil (lk : Nat → Option Ob) : freeOK lk [] = true := rfl
theorem freeOK_cons (lk : Nat → Option Ob) (k : Nat) (o : Ob) (r : List (Nat × Ob)) : freeOK lk ((k, o) :: r) = ((!(lk k).isSome && decide (k < baseN)) && freeOK lk r) := rfl

def applyE (s : St) (dst : Option Nat) (g : Option (Nat × Bool)) (G : Bool) : Eff → Option St
  | .val d => some (s.set dst (wrapD g G d))
  | .new o ptr =>
    match g, dst with
    | none, some k => if (s.lk k).isSome ∨ baseN ≤ k then none else some ({ s with ob := obPut k o s.ob }.set dst (if ptr then .own k 0 else .row k))
    | _, _ => none
  | .put k o =>
    match g, dst with
    | none, none => some { s with ob := obPut k o s.ob }
    | _, _ => none
  | .mv k o =>
    match g, dst with
    | none, some j => if (s.lk j).isSome ∧ k ≠ some j ∨ baseN ≤ j then none else
      match k with
      | some k => some (St.set { tm := forgetL k s.tm, ob := obPut j o (forgetO k (obDel k s.ob)) } dst (.row j))
      | none => some ({ s with ob := obPut j o s.ob }.set dst (.row j))
    | _, _ => none
  | .mv2 k k2 o =>
    match g, dst with
    | none, some j => if (s.lk j).isSome ∨ baseN ≤ j then none else
      some (St.set { tm := forgetL k (forgetL k2 s.tm), ob := obPut j o (forgetO k (obDel k (forgetO k2 (obDel k2 s.ob)))) } dst (.row j))
    | _, _ => none
  | .news ob d =>
    match g, dst with
    | none, some k =>
      if freeOK s.lk (outObs k [] ob) = true then some (St.set ⟨s.tm, putObs (outObs k [] ob) s.ob⟩ (some k) (d.ren (outM k []))) else none
    | _, _ => none
  | .putv k o d =>
    match g with
    | none => some ({ s with ob := obPut k o s.ob }.set dst d)
    | _ => none
  | .frz ks d =>
    match g with
    | none => some ((s.frz ks).set dst d)
    | some _ => if ks.isEmpty = true then some (s.set dst (wrapD g G d)) else none
  | .cal ks d ob =>
    match g with
    | none =>
      if namesOK s.lk (dst.getD 9998) ob = true then
        some (St.set ⟨forgetLs (goneK ob 0 ks) s.tm, putObs (outObs (dst.getD 9998) ks ob) (dropObs (goneK ob 0 ks) s.ob)⟩ dst (d.ren (outM (dst.getD 9998) ks)))
      else none
    | _ => none

/-- One operation: what is owed, and the state behind it. -/
def istep (T : Tb) (s : St) (o : IOper) : Option (Prop × St) :=
  match gd s o.guard with
  | none => none
  | some G =>
    match o.op with
    | .pick c a b =>
      match (c.ev T s).un with
      | .bool cb =>
        match pickD cb (a.ev T s).un (b.ev T s).un with
        | some d => some (G = true → (c.ev T s).gu = true ∧ (cb = true → (a.ev T s).gu = true) ∧ (cb = false → (b.ev T s).gu = true), s.set o.dst (wrapD o.guard G d))
        | none => none
      | _ => none
    | .call f as =>
      match T.sp f with
      | some sp =>
        if lvL s.lk (as.map fun x => (x.ev T s).un) = true then
        some (G = true → sp.hx = none ∧ gus T s as ∧ sp.pre (as.map fun x => (x.ev T s).un.out s.lk) ∧ closL (as.map fun x => (x.ev T s).un.out s.lk) = true ∧
            (norowL (as.map fun x => (x.ev T s).un) = false → (sp.F (as.map fun x => (x.ev T s).un.out s.lk)).scal = true),
          s.set o.dst (wrapD o.guard G (sp.F (as.map fun x => (x.ev T s).un.out s.lk))))
        else none
      | none => none
    | .calln f as =>
      match T.sp f with
      | some sp =>
        match sp.hx with
        | some hs =>
          if lvL s.lk (as.map fun x => (x.ev T s).un) = true ∧ norowL (as.map fun x => (x.ev T s).un) = true then
            match applyE s o.dst o.guard G (.news (hs.F (as.map fun x => (x.ev T s).un.out s.lk) []).2 (hs.F (as.map fun x => (x.ev T s).un.out s.lk) []).1) with
            | some s' => some (G = true → gus T s as ∧ hs.pre (as.map fun x => (x.ev T s).un.out s.lk) [] ∧ closL (as.map fun x => (x.ev T s).un.out s.lk) = true ∧ okNames 0 (hs.F (as.map fun x => (x.ev T s).un.out s.lk) []).2 = true, s')
            | none => none
          else none
        | none => none
      | none => none
    | op =>
      match act T op (fun x => (x.ev T s).un) s.lk with
      | none => none
      | some (φ, e) =>
        match applyE s o.dst o.guard G e with
        | none => none
        | some s' => some (G = true → gus T s op.opds ∧ φ, s')

/-- A list of operations, one behind the other. -/
def VCops (T : Tb) : List IOper → (St → Prop) → St → Prop
  | [], Q, s => Q s
  | o :: r, Q, s =>
    match istep T s o with
    | some (φ, s') => φ ∧ VCops T r Q s'
    | none => False

mutual
/-- Row k is a view of an array of cp cells. -/
def D.opn (k sz n cp : Nat) : D → D
  | .row j => if j = k then .vw k sz 0 n cp else .row j
  | .agg cs => .agg (opnL k sz n cp cs)
  | .tup cs => .tup (opnL k sz n cp cs)
  | .clo f cs => .clo f (opnL k sz n cp cs)
  | .wh g d => .wh g (D.opn k sz n cp d)
  | d => d
def opnL (k sz n cp : Nat) : List D → List D
  | [] => []
  | d :: r => D.opn k sz n cp d :: opnL k sz n cp r
end
mutual
/-- Box k is a slice of one element, that is looked at closer. -/
def D.tob (k sz : Nat) : D → D
  | .own j o => if j = k then .elr k sz 0 o else .own j o
  | .row j => if j = k then .any else .row j
  | .elr j z i o => if j = k then .any else .elr j z i o
  | .vw j z lo n cp => if j = k then .any else .vw j z lo n cp
  | .agg cs => .agg (tobL k sz cs)
  | .tup cs => .tup (tobL k sz cs)
  | .clo f cs => .clo f (tobL k sz cs)
  | .wh g d => .wh g (D.tob k sz d)
  | d => d
def tobL (k sz : Nat) : List D → List D
  | [] => []
  | d :: r => D.tob k sz d :: tobL k sz r
end
def Ob.tob (k sz : Nat) : Ob → Ob
  | .box cs => .box (tobL k sz cs)
  | .rwh z es i e => .rwh z es i (tobL k sz e)
  | o => o
def tobO (k sz : Nat) : List (Nat × Ob) → List (Nat × Ob)
  | [] => []
  | (j, o) :: r => (j, o.tob k sz) :: tobO k sz r
def Ob.opn (k sz n cp : Nat) : Ob → Ob
  | .box cs => .box (opnL k sz n cp cs)
  | .rwh z es i e => .rwh z es i (opnL k sz n cp e)
  | o => o
def opnO (k sz n cp : Nat) : List (Nat × Ob) → List (Nat × Ob)
  | [] => []
  | (j, o) :: r => (j, o.opn k sz n cp) :: opnO k sz n cp r
/-- The object that stands in a slot, and what it holds, stays as it is from then on. A row that a box has: 1000 + 10 * slot + cell; an object by its name n: 5000 + n. -/
def St.pathR (s : St) (t : Nat) : Option Nat :=
  if t < 5000 then
    match s.get ((t - 1000) / 10) with
    | .own b o =>
      match s.lk b with
      | some (.box cs) => match cs.getD (o + (t - 1000) % 10) .any with | .row k => some k | _ => none
      | _ => none
    | _ => none
  else some (t - 5000)
/-- An index: of a slot (c = 0), or of a struct's cell. -/
def St.pathI (s : St) (c x : Nat) : Option Nat :=
  match s.get x, c with
  | .int _ n, 0 => some n.toNat
  | .agg cs, c + 1 => match cs.getD c .any with | .int _ n => some n.toNat | _ => none
  | _, _ => none
def St.frzT (s : St) (t : Nat) : St :=
  if t < 1000 then
    match s.get t with
    | .row k => s.frz [k]
    | .own k _ => s.frz (reach s.lk 3 [k])
    | _ => s
  else
    match s.pathR t with
    | some k => s.frz [k]
    | none => s
def St.opnS (s : St) (k sz n cp : Nat) (es : List (List D)) : St := ⟨opnL k sz n cp s.tm, obPut k (.ars sz es) (opnO k sz n cp s.ob)⟩
def St.bxS (s : St) (k : Nat) (cs : List D) : St := ⟨tobL k cs.length s.tm, obPut k (.rwh cs.length [List.replicate cs.length .any] 0 (tobL k cs.length cs)) (tobO k cs.length s.ob)⟩
def St.clsS (s : St) (t k sz : Nat) (es : List (List D)) : St := St.set ⟨forgetL k s.tm, obPut t (.rws sz es) (forgetO k (obDel k s.ob))⟩ (some t) (.row t)
/-- Cells of an element that is open become rows by names of their own. -/
def VCou (k : Nat) (Q : St → Prop) : List (Nat × Nat) → St → Prop
  | [], s => Q s
  | (o, n) :: l, s =>
    match s.lk k with
    | some (.rwh sz es i e) =>
      match e[o]? with
      | some (.sub sz' es') => (s.lk n = none ∧ n < baseN) ∧ VCou k Q l ⟨s.tm, obPut n (.row sz' es') (obPut k (.rwh sz es i (e.set o (.row n))) s.ob)⟩
      | some (.sbx cs) => (s.lk n = none ∧ n < baseN) ∧ VCou k Q l ⟨s.tm, obPut n (.rws cs.length [cs]) (obPut k (.rwh sz es i (e.set o (.elr n cs.length 0 0))) s.ob)⟩
      | _ => False
    | _ => False
/-- And back. -/
def VCcx (k : Nat) (Q : St → Prop) : List Nat → St → Prop
  | [], s =>
    match s.lk k with
    | some (.rwh sz es i e) => (e.all D.cellS = true) ∧ Q ⟨s.tm, obPut k (.rws sz (es.set i e)) s.ob⟩
    | _ => False
  | o :: l, s =>
    match s.lk k with
    | some (.rwh sz es i e) =>
      match e[o]? with
      | some (.row n) =>
        match s.lk n with
        | some (.row sz' es') => n ≠ k ∧ VCcx k Q l ⟨forgetL n s.tm, obPut k (.rwh sz es i (forgetL n (e.set o (.sub sz' es')))) (forgetO n (obDel n s.ob))⟩
        | _ => False
      | some (.nl sz') => VCcx k Q l ⟨s.tm, obPut k (.rwh sz es i (e.set o (.sub sz' []))) s.ob⟩
      | some (.elr n sz' 0 0) =>
        match s.lk n with
        | some (.rws sz2 [cs]) => (n ≠ k ∧ sz2 = sz' ∧ cs.length = sz2) ∧ VCcx k Q l ⟨forgetL n s.tm, obPut k (.rwh sz es i (forgetL n (e.set o (.sbx cs)))) (forgetO n (obDel n s.ob))⟩
        | _ => False
      | _ => False
    | _ => False
/-- A slice of one struct, that has rows of its own. -/
def St.oneS (s : St) (sz : Nat) (dst : Option Nat) (d : D) : Option (Prop × St) :=
  match dst with
  | some k => if (s.lk k).isSome ∨ baseN ≤ k then none else some (d.cells.length = sz ∧ d.cells.all D.cell' = true, St.set ⟨s.tm, obPut k (.rwh sz [List.replicate sz .any] 0 d.cells) s.ob⟩ (some k) (.row k))
  | none => none
/-- The object, and the element, that a slot speaks of. -/
def D.objI : D → Option (Nat × Nat × Nat)
  | .elr k sz i _ => some (k, sz, i)
  | _ => none
def D.objK : D → Option Nat
  | .elr k _ _ _ => some k
  | .row k => some k
  | _ => none
/-- The same of a slot, of an element of a row that a box has, or of an object's first element. -/
def St.objP (s : St) (t c x : Nat) : Option (Nat × Nat × Nat) :=
  if t < 1000 then (s.get t).objI else
  match s.pathR t, (if t < 5000 then s.pathI c x else some 0) with
  | some k, some i =>
    match s.lk k with
    | some (.rws sz _) => some (k, sz, i)
    | some (.rwh sz _ _ _) => some (k, sz, i)
    | _ => none
  | _, _ => none
def St.objQ (s : St) (t c x : Nat) : Option Nat := if t < 1000 then (s.get t).objK else (s.objP t c x).map (·.1)
def pathL {α : Type} (t n : Nat) (l : List α) : List α := if 1000 ≤ t ∧ t < 5000 then l.drop n else l
def St.opnT (s : St) (k sz n cp : Nat) (es : List (List D)) : St := ⟨opnL k sz n cp s.tm, obPut k (.arr sz es) (opnO k sz n cp s.ob)⟩
def St.clsT (s : St) (t k sz : Nat) (es : List (List D)) : St := St.set ⟨forgetL k s.tm, obPut t (.row sz es) (forgetO k (obDel k s.ob))⟩ (some t) (.row t)

/-- A list of operations, with marks between them. -/
def VCopsG (T : Tb) : List IOper → (St → Prop) → St → Prop
  | [], Q, s => Q s
  | o :: r, Q, s =>
    match o.op with
    | .gfz t => VCopsG T r Q (s.frzT t)
    | .gop t =>
      match s.get t with
      | .row k =>
        match s.lk k with
        | some (.row sz es) => (es = [] → VCopsG T r Q (s.frz [k])) ∧ ∀ m : Nat, es.length + m ≤ 9223372036854775807 → VCopsG T r Q (s.opnT k sz es.length (es.length + m) (es ++ List.replicate m (List.replicate sz .any)))
        | some (.rws sz es) => (es = [] → VCopsG T r Q (s.frz [k])) ∧ ∀ m : Nat, es.length + m ≤ 9223372036854775807 → VCopsG T r Q (s.opnS k sz es.length (es.length + m) (es ++ List.replicate m (List.replicate sz .any)))
        | _ => False
      | _ => False
    | .gcl t =>
      match s.get t with
      | .vw k sz 0 n cp =>
        match s.lk k with
        | some (.arr sz' es) => (sz' = sz ∧ n ≤ es.length ∧ cp = es.length ∧ s.lk t = none ∧ t < baseN ∧ ((es.take n).all fun e => e.all D.cell) = true) ∧ VCopsG T r Q (s.clsT t k sz (es.take n))
        | some (.ars sz' es) => (sz' = sz ∧ n ≤ es.length ∧ cp = es.length ∧ s.lk t = none ∧ t < baseN ∧ ((es.take n).all fun e => e.all D.cellS) = true) ∧ VCopsG T r Q (s.clsS t k sz (es.take n))
        | _ => False
      | .fz _ _ => VCopsG T r Q s
      | _ => False
    | .gou t l =>
      match s.objP t (l.headD (0, 0)).1 (l.headD (0, 0)).2 with
      | some (k, sz, i) =>
        match s.lk k with
        | some (.rws sz' es) => (sz' = sz ∧ i < es.length) ∧ VCou k (fun s' => VCopsG T r Q s') (pathL t 1 l) ⟨s.tm, obPut k (.rwh sz es i (elem es i)) s.ob⟩
        | some (.rwh _ _ i' _) => i = i' ∧ VCou k (fun s' => VCopsG T r Q s') (pathL t 1 l) s
        | _ => False
      | none => False
    | .gcx t l =>
      match s.objQ t (l.headD 0) (l.tail.headD 0) with
      | some k => VCcx k (fun s' => VCopsG T r Q s') (pathL t 2 l) s
      | none => False
    | .gbx t =>
      match s.get t with
      | .own k 0 =>
        match s.lk k with
        | some (.box cs) => (k < baseN ∧ cs.all D.cell' = true) ∧ VCopsG T r Q (s.bxS k cs)
        | _ => False
      | _ => False
    | .gsx =>
      match r with
      | [] => False
      | o2 :: r2 =>
        match o2.op, o2.guard with
        | .bslice sz [_] [(0, x)], none =>
          match s.oneS sz o2.dst (x.ev T s).un with
          | some (φ, s') => (x.ev T s).gu = true ∧ φ ∧ VCopsG T r2 Q s'
          | none => False
        | _, _ => False
    | .gsr =>
      match r with
      | [] => False
      | o2 :: r2 =>
        match o2.op, o2.guard, o2.dst with
        | .slc n x none (some m), none, some j =>
          match (x.ev T s).un, (m.ev T s).un with
          | .row k, .int _ q =>
            match s.lk k with
            | some (.row sz es) => ((x.ev T s).gu = true ∧ (m.ev T s).gu = true ∧ sz = n ∧ 0 ≤ q ∧ q ≤ es.length ∧ (s.lk j = none ∨ j = k) ∧ j < baseN) ∧ VCopsG T r2 Q (St.set ⟨forgetL k s.tm, obPut j (.row n (es.take q.toNat)) (forgetO k (obDel k s.ob))⟩ (some j) (.row j))
            | _ => False
          | _, _ => False
        | _, _, _ => False
    | _ =>
      match istep T s o with
      | some (φ, s') => φ ∧ VCopsG T r Q s'
      | none => False

/-- A slice of one slice, that is a row of the walk's own. -/
def IOp.isB : IOp → Bool
  | .bslice _ [[.nl _]] [(_, .t _)] => true
  | _ => false
def mstep (T : Tb) (s : St) (o : IOper) : Option (Prop × St) :=
  if o.op.isB = true then
    match o.op with
    | .bslice z _ [(i, x)] =>
      match (x.ev T s).un, o.dst with
      | .row n, some j =>
        match s.lk n with
        | some (.row sz es) => if (s.lk j).isSome ∨ baseN ≤ j ∨ z ≠ 1 ∨ i ≠ 0 then none else some ((x.ev T s).gu = true, St.set ⟨forgetL n s.tm, obPut j (.rws 1 [[.sub sz es]]) (forgetO n (obDel n s.ob))⟩ (some j) (.row j))
        | _ => none
      | _, _ => none
    | _ => none
  else istep T s o
/-- What is looked at does not hang on the rows that go over. -/
def lchk (T : Tb) (s : St) (op : IOp) : Prop :=
  match op with
  | .load _ _ x => match (x.ev T s).un with | .own _ _ => True | _ => False
  | .len x => match (x.ev T s).un with | .fz _ _ => True | .nl _ => True | _ => False
  | _ => True
/-- Nothing new bears the name of a row that went over. -/
def kchk (T : Tb) (s : St) (x : Opd) (r : List IOper) : Prop :=
  match (x.ev T s).un with
  | .row k => (r.all fun p => p.dst != some k) = true
  | .vw _ _ _ _ _ => False
  | _ => True
def mchk (T : Tb) (s : St) (o : IOper) (r : List IOper) : Prop :=
  match o.op with
  | .append _ _ x y => kchk T s x r ∧ kchk T s y r
  | .bslice _ _ [(_, x)] => kchk T s x r
  | op => lchk T s op
def VCopsM (T : Tb) : List IOper → (St → Prop) → St → Prop
  | [], Q, s => Q s
  | o :: r, Q, s => mchk T s o r ∧
    match mstep T s o with
    | some (φ, s') => φ ∧ VCopsM T r Q s'
    | none => False
def isMl : List IOper → Bool
  | o :: _ => match o.op with | .gsr => true | _ => false
  | [] => false

/-- Several orders. -/
def VCalt (T : Tb) (Q : St → Prop) (s : St) : List (List IOper) → Prop
  | [] => True
  | l :: r => (if isMl l = true then VCopsM T l.tail Q s else VCops T l Q s) ∧ VCalt T Q s r

inductive Ex where
  | normal
  | exit (id : Nat)
  | ret
  deriving DecidableEq

/-- How the objects of a state are named in another one: none: an empty row. -/
def sg (σ : List (Nat × Option Nat)) (k : Nat) : Option Nat :=
  match σ.lookup k with
  | some r => r
  | none => some k

mutual
/-- a may be taken for b, whose objects are named by σ; fl: the objects that are no longer the walk's own. -/
def leD (σ : List (Nat × Option Nat)) (tl : Nat → Bool) (fl : Nat → Option Ob) : D → D → Prop
  | _, .any => True
  | .row k, .fz sz es => (match fl k with | some (.row sz' es') => sz' = sz ∧ es' = es | some (.rws sz' es') => sz' = sz ∧ outE es' = es | _ => False)
  | .nl _, .fz _ es => es = []
  | a, .row k => tl k = true ∧ (match sg σ k with | some k' => a = .row k' | none => ∃ z, a = .nl z)
  | a, .own k o => tl k = true ∧ ∃ k', sg σ k = some k' ∧ a = .own k' o
  | a, .elr k sz i o => tl k = true ∧ ∃ k', sg σ k = some k' ∧ a = .elr k' sz i o
  | a, .vw k sz lo n cp => tl k = true ∧ ∃ k', sg σ k = some k' ∧ a = .vw k' sz lo n cp
  | .bool _, .ub => True
  | .sub a es, .sub a' es' => a' = a ∧ es' = es
  | .sbx cs, .sbx ds => ds = cs
  | .agg cs, .agg ds => leDL σ tl fl cs ds
  | .tup cs, .tup ds => leDL σ tl fl cs ds
  | .clo f cs, .clo g ds => (closL ds = true ∧ f = g ∧ cs = ds) ∨ (f = g ∧ leDL σ tl fl cs ds)
  | a, b => b.clos = true ∧ a = b
def leDL (σ : List (Nat × Option Nat)) (tl : Nat → Bool) (fl : Nat → Option Ob) : List D → List D → Prop
  | [], [] => True
  | a :: r, b :: r' => leD σ tl fl a b ∧ leDL σ tl fl r r'
  | _, _ => False
end
def leOb (σ : List (Nat × Option Nat)) (tl : Nat → Bool) (fl lk : Nat → Option Ob) : List (Nat × Ob) → Prop
  | [] => True
  | (k, .box cs) :: r => (match sg σ k with | some k' => (match lk k' with | some (.box ds) => leDL σ tl fl ds cs | _ => False) | none => False) ∧ leOb σ tl fl lk r
  | (k, .row sz es) :: r => (match sg σ k with | some k' => lk k' = some (.row sz es) | none => es = []) ∧ leOb σ tl fl lk r
  | (k, .arr sz es) :: r => (match sg σ k with | some k' => lk k' = some (.arr sz es) | none => False) ∧ leOb σ tl fl lk r
  | (k, .rws sz es) :: r => (match sg σ k with | some k' => lk k' = some (.rws sz es) | none => es = []) ∧ leOb σ tl fl lk r
  | (k, .ars sz es) :: r => (match sg σ k with | some k' => lk k' = some (.ars sz es) | none => False) ∧ leOb σ tl fl lk r
  | (k, .bld U e bs) :: r => (match sg σ k with | some k' => lk k' = some (.bld U e bs) | none => False) ∧ leOb σ tl fl lk r
  | (k, .rwh sz es i e) :: r => (match sg σ k with | some k' => (match lk k' with | some (.rwh sz' es' i' e') => sz' = sz ∧ es' = es ∧ i' = i ∧ leDL σ tl fl e' e | _ => False) | none => False) ∧ leOb σ tl fl lk r
/-- The objects that t has no name for. -/
def freeOf (σ : List (Nat × Option Nat)) (t : List (Nat × Ob)) (lk : Nat → Option Ob) (k : Nat) : Option Ob :=
  if (t.any fun p => sg σ p.1 == some k) = true then none else lk k
/-- What was handed in keeps its name. -/
def keeps (σ : List (Nat × Option Nat)) (t : List (Nat × Ob)) : Bool := t.all fun p => decide (p.1 < baseN) || sg σ p.1 == some p.1
def apartK : List (Option Nat) → Bool
  | [] => true
  | none :: r => apartK r
  | some k :: r => !r.contains (some k) && apartK r
/-- A state in which more is known. -/
def St.le (σ : List (Nat × Option Nat)) (s t : St) : Prop :=
  apartK (t.ob.map fun p => sg σ p.1) = true ∧ keeps σ t.ob = true ∧ leDL σ (fun k => (t.lk k).isSome) (freeOf σ t.ob s.lk) s.tm t.tm ∧ leOb σ (fun k => (t.lk k).isSome) (freeOf σ t.ob s.lk) s.lk t.ob

/-- The same state, or one in which more is known. -/
def St.leq (σ : List (Nat × Option Nat)) (s t : St) : Prop := s = t ∨ s.le σ t

/-- Code without the marks where a proof is cut. -/
def IOper.gh (o : IOper) : Bool :=
  match o.op with
  | .gfz _ | .gop _ | .gcl _ | .gou _ _ | .gcx _ _ | .gsx | .gsr | .gbx _ => true
  | _ => false
def VC (T : Tb) : IC → (Ex → St → Prop) → St → Prop
  | .skip, Q, s => Q .normal s
  | .reg ops, Q, s => VCopsG T ops (Q .normal) s
  | .alt ls, Q, s => VCalt T (Q .normal) s ls
  | .seq a b, Q, s => VC T a (fun e s' => match e with | .normal => VC T b Q s' | .exit i => Q (.exit i) s' | .ret => Q .ret s') s
  | .seqc a b, Q, s => ∃ (ι : Type) (I : ι → St), VC T a (fun e s' => match e with | .normal => ∃ σ x, s'.le σ (I x) | .exit i => Q (.exit i) s' | .ret => Q .ret s') s ∧ ∀ x, VC T b Q (I x)
  | .mrk ops b, Q, s => ops.all IOper.gh = true ∧ VCopsG T ops (fun s' => VC T b Q s') s
  | .mrq b ops, Q, s => ops.all IOper.gh = true ∧ VC T b (fun e s' => match e with | .normal => VCopsG T ops (Q .normal) s' | .exit i => Q (.exit i) s' | .ret => Q .ret s') s
  | .bad, _, _ => False
  | .cond c a b, Q, s =>
    match c.ev T s with
    | .bool t => (t = true → VC T a Q s) ∧ (t = false → VC T b Q s)
    | .ub => VC T a Q s ∧ VC T b Q s
    | _ => False
  | .block id b, Q, s => VC T b (fun e s' => match e with | .exit i => if i = id then Q .normal s' else Q (.exit i) s' | .normal => Q .normal s' | .ret => Q .ret s') s
  | .loop b, Q, s => ∃ (ι : Type) (I : ι → St) (μ : ι → Nat), (∃ σ x, s.leq σ (I x)) ∧
      ∀ x, VC T b (fun e s' => match e with | .normal => ∃ σ y, s'.leq σ (I y) ∧ μ y < μ x | .exit i => Q (.exit i) s' | .ret => Q .ret s') (I x)
  | .exit id, Q, s => Q (.exit id) s
  | .ret, Q, s => Q .ret s

def IC.er : IC → IC
  | .reg ops => .reg (ops.filter fun o => !o.gh)
  | .seq a b => .seq a.er b.er
  | .seqc a b => .seq a.er b.er
  | .mrk _ b => b.er
  | .mrq b _ => b.er
  | .cond c a b => .cond c a.er b.er
  | .block id b => .block id b.er
  | .loop b => .loop b.er
  | c => c

/-- Where a function's results stand. -/
inductive IRes where
  | tmp (t : Nat)
  | cell (t n : Nat) (ag : Bool)

def IRes.get (s : St) : IRes → Option D
  | .tmp t => some (s.get t)
  | .cell t n ag =>
    match s.get t with
    | .own k 0 =>
      match s.lk k with
      | some (.box cs) => if n ≤ cs.length ∧ (ag = false → n = 1) then some (Vcg.cut ag 0 n cs) else none
      | _ => none
    | _ => none
def getRes (s : St) : List IRes → Option (List D)
  | [] => some []
  | r :: l =>
    match r.get s, getRes s l with
    | some d, some ds => some (d :: ds)
    | _, _ => none
def oneRes : List D → D
  | [d] => d
  | ds => .tup ds

/-- A function: its temporaries, its body, its results. -/
structure IFn where
  n : Nat
  body : IC
  res : List IRes

def IFn.er (f : IFn) : IFn := { f with body := f.body.er }

/-- What is behind a function's end. -/
def fnPost (res : List IRes) (goal : D) (e : Ex) (s : St) : Prop :=
  match e with
  | .exit _ => False
  | _ => match getRes s res with
    | some ds => (oneRes ds).out s.lk = goal ∧ ((oneRes ds).out s.lk).clos = true
    | none => False

/-- The same, where objects come back: by whatever names. -/
def fnPostX (res : List IRes) (goal : D × List (Nat × Ob)) (e : Ex) (s : St) : Prop :=
  match e with
  | .exit _ => False
  | _ => match getRes s res with
    | some ds => ∃ σ, St.le σ ⟨[oneRes ds], s.ob⟩ ⟨[goal.1], goal.2⟩
    | none => False

/-- THE PROOF OF A FUNCTION, on data. -/
def Verified (T : Tb) (fn : IFn) (sp : Sp) : Prop :=
  match sp.hx with
  | none => ∀ ds, sp.pre ds → VC T fn.body (fnPost fn.res (sp.F ds)) ⟨ds ++ List.replicate (fn.n - ds.length) .any, []⟩
  | some hs => ∀ ds ob, hs.pre ds ob → (∀ k, (ob.lookup k).isSome = true → baseN ≤ k) → VC T fn.body (fnPostX fn.res (hs.F ds ob)) ⟨ds ++ List.replicate (fn.n - ds.length) .any, ob⟩

end
end Go.Vcg

namespace Go.Vcg

/-! ### From the program's operations to IOp -/
def szOf (P : Program) (T : TypeId) : Nat :=
  match P.underlying T with
  | some (.slice e) => P.cellsOf e
  | _ => 0

def valD (P : Program) (T : TypeId) : Value → Option D
  | .int k n => some (.int k n)
  | .bool b => some (.bool b)
  | .string s => some (.str s.data.toList)
  | .pointer none => some .nilp
  | .slice none 0 0 => some (.nl (szOf P T))
  | .nilIface => some (.err (some true))
  | _ => none

def cOpd (P : Program) (T : TypeId) : Operand → Option Opd
  | .tmp t => some (.t t)
  | .const v => (valD P T v).map .c
  | .global g => some (.g g)
  | .func f => some (.c (.clo f []))

def aggT (P : Program) (T : TypeId) : Option Bool :=
  match P.underlying T with
  | some (.struct _) | some (.array _ _) => some true
  | some _ => some false
  | none => none

/-- The size of a type that has a row. -/
def sizeT (P : Program) (T : TypeId) : Option Nat := (P.info? T).map (·.size)

def zeroD (P : Program) : Nat → TypeId → Option (List D)
  | 0, _ => none
  | n + 1, T =>
    match P.underlying T with
    | some .bool => some [.bool false]
    | some (.int k) => some [.int k 0]
    | some .string => some [.str []]
    | some (.pointer _) => some [.nilp]
    | some (.slice e) => some [.nl (P.cellsOf e)]
    | some (.interface _) => some [.err (some true)]
    | some (.struct fs) => (fs.toList.mapM fun f => zeroD P n f.type).map List.flatten
    | some (.array m e) => (zeroD P n e).map fun l => (List.replicate m l).flatten
    | _ => none

def mV : D → Value → Bool
  | .int k n, .int k' n' => decide (k = k') && decide (n = n')
  | .bool b, .bool b' => b == b'
  | .str s, .string t => decide (s = t.data.toList)
  | .nilp, .pointer none => true
  | .nl _, .slice none 0 0 => true
  | .err (some true), .nilIface => true
  | _, _ => false
def mL : List D → List Value → Bool
  | [], [] => true
  | d :: ds, v :: vs => mV d v && mL ds vs
  | _, _ => false

/-- The zero cells of a type. -/
def zeroT (P : Program) (T : TypeId) : Option (List D) :=
  match zeroD P 8 T, (P.info? T).bind (·.zero) with
  | some cs, some z => if mL cs z.cells.toList then some cs else none
  | _, _ => none

/-- A type of two cells, a pointer to its own kind and a row of bytes: strings.Builder. Its bytes' type. -/
def isBz : Option (List D) → Bool
  | some [.nilp, .nl 1] => true
  | _ => false
def isU8 : Option TypeDesc → Bool
  | some (.int .u8) => true
  | _ => false
def bldT (P : Program) (U : TypeId) : Option TypeId :=
  match P.underlying U with
  | some (.struct fs) =>
    match fs.toList with
    | [f0, f1] =>
      match P.underlying f0.type, P.underlying f1.type with
      | some (.pointer t), some (.slice e) => if (decide (t = U) && isU8 (P.underlying e) && isBz (zeroT P U)) = true then some e else none
      | _, _ => none
    | _ => none
  | _ => none
theorem isBz_eq {o : Option (List D)} (h : isBz o = true) : o = some [.nilp, .nl 1] := by
  unfold isBz at h
  split at h
  · rfl
  · cases h
theorem bldT_zero {P : Program} {U e : TypeId} (h : bldT P U = some e) : zeroT P U = some [.nilp, .nl 1] := by
  unfold bldT at h
  split at h <;> try (cases h; done)
  split at h <;> try (cases h; done)
  split at h <;> try (cases h; done)
  split at h
  · rename_i hc
    simp only [Bool.and_eq_true] at hc
    exact isBz_eq hc.2
  · cases h

mutual
/-- The cells of a type whose leaves are integers, bools, strings, one behind the other. -/
def flatT (P : Program) : Nat → TypeId → Option (List Kd)
  | 0, _ => none
  | n + 1, U =>
    match P.underlying U with
    | some .bool => some [.bool]
    | some (.int _) => some [.int]
    | some .string => some [.str]
    | some (.struct fs) => if P.stoodInHeld U then none else flatF P n 0 fs.toList
    | _ => none
def flatF (P : Program) : Nat → Nat → List Field → Option (List Kd)
  | _, _, [] => some []
  | 0, _, _ :: _ => none
  | n + 1, off, f :: fs =>
    match flatT P n f.type with
    | some ks =>
      if f.name ≠ "_" ∧ f.offset = off ∧ sizeT P f.type = some ks.length then (flatF P n (off + ks.length) fs).map (ks ++ ·) else none
    | none => none
end

def guardSlot (ops : Array Oper) : Option (Nat × Bool) → Option (Option (Nat × Bool))
  | none => some none
  | some (j, b) => ((ops[j]?).bind (·.dst)).map fun d => some (d, b)

def fieldT (P : Program) (T : TypeId) (i : Nat) : Option Field :=
  match P.underlying T with
  | some (.struct fs) => fs[i]?
  | _ => none

def cParts (P : Program) (T : TypeId) : List (Nat × Operand) → Option (List (Nat × Nat × Opd))
  | [] => some []
  | (i, x) :: r =>
    match fieldT P T i with
    | some f =>
      match cOpd P f.type x, sizeT P f.type, cParts P T r with
      | some y, some n, some l => some ((f.offset, n, y) :: l)
      | _, _, _ => none
    | none => none

def cRows (P : Program) (e : TypeId) : List (Nat × Operand) → Option (List (Nat × Opd))
  | [] => some []
  | (i, x) :: r =>
    match cOpd P e x, cRows P e r with
    | some y, some l => some ((i, y) :: l)
    | _, _ => none

def cArgs (P : Program) : List TypeId → List Operand → Option (List Opd)
  | [], [] => some []
  | T :: Ts, x :: xs =>
    match cOpd P T x, cArgs P Ts xs with
    | some y, some l => some (y :: l)
    | _, _ => none
  | _, _ => none

def cBuiltin (P : Program) : Builtin → List Operand → List TypeId → Option IOp
  | .len, [x], [t] =>
    match P.underlying t with
    | some (.slice _) => (cOpd P t x).map .len
    | some .string => (cOpd P t x).map .lens
    | _ => none
  | .cap, [x], [t] =>
    match P.underlying t with
    | some (.slice _) => (cOpd P t x).map .capo
    | _ => none
  | .clear, [x], [t] =>
    match P.underlying t with
    | some (.slice e) =>
      match P.info? e, zeroT P e, cOpd P t x with
      | some i, some z, some x' => if z.length = i.size ∧ 0 < i.size then some (.clr i.size z x') else none
      | _, _, _ => none
    | _ => none
  | .copy, [x, y], [t, u] =>
    if t = u then
      match P.underlying t with
      | some (.slice e) =>
        match P.info? e, cOpd P t x, cOpd P t y with
        | some i, some x', some y' => if 0 < i.size then some (.cpy i.size x' y') else none
        | _, _, _ => none
      | _ => none
    else none
  | .append, [x, y], [t, u] =>
    match P.underlying t, P.underlying u with
    | some (.slice e), some (.int .i64) =>
      match P.info? e, zeroT P e, cOpd P t x, cOpd P u y with
      | some i, some z, some x', some y' => if z.length = i.size ∧ 0 < i.size then some (.appz i.size i.bytes z x' y') else none
      | _, _, _, _ => none
    | _, _ =>
    if t = u then
      match P.underlying t with
      | some (.slice e) =>
        match P.info? e, zeroT P e, cOpd P t x, cOpd P t y with
        | some i, some z, some x', some y' => if z.length = i.size ∧ 0 < i.size then some (.append i.size i.bytes x' y') else none
        | _, _, _, _ => none
      | _ => none
    else none
  | .max, [x, y], [t, u] =>
    match cOpd P t x, cOpd P u y with
    | some x', some y' => some (.mm true x' y')
    | _, _ => none
  | .min, [x, y], [t, u] =>
    match cOpd P t x, cOpd P u y with
    | some x', some y' => some (.mm false x' y')
    | _, _ => none
  | _, _, _ => none

def ovlOf : List Opd → IOp
  | [x, y] => .ovl x y
  | _ => .bad
/-- A call that answers new objects; slices.overlaps, which has no body, bears the number 3000000 + f. -/
def callN (k f : Nat) (ys : List Opd) : IOp := if k = 3000000 + f then ovlOf ys else .calln k ys
def cCall (P : Program) (kf : Nat → Nat) (c : Call) : Option IOp :=
  match c.callee with
  | .value (.func f) => if kf f < 1000000 then (cArgs P c.argTypes.toList c.args.toList).map (.call (kf f)) else if kf f < 2000000 then (cArgs P c.argTypes.toList c.args.toList).map (.callx (kf f)) else (cArgs P c.argTypes.toList c.args.toList).map (callN (kf f) f)
  | .value (.tmp t) => (cArgs P c.argTypes.toList c.args.toList).map (.callc (.t t))
  | .builtin b => cBuiltin P b c.args.toList c.argTypes.toList
  | _ => none

def cCaps (P : Program) : List Operand → Option (List Opd)
  | [] => some []
  | x :: xs =>
    match cOpd P 0 x, cCaps P xs with
    | some y, some l => some (y :: l)
    | _, _ => none
/-- An operation. 'T': the type of what it yields. -/
def cOp (P : Program) (kf : Nat → Nat) (op : Op) (T : TypeId) : Option IOp :=
  match op with
  | .move x | .assign x => (cOpd P T x).map .mov
  | .pick c a b =>
    match cOpd P 0 c, cOpd P T a, cOpd P T b with
    | some c', some a', some b' => some (.pick c' a' b')
    | _, _, _ => none
  | .alloc e =>
    match bldT P e with
    | some b => some (.bnew e b)
    | none => (zeroT P e).map .alloc
  | .box e x => (cOpd P e x).map .box
  | .build t parts =>
    match P.underlying t, zeroT P t, cParts P t parts.toList with
    | some (.struct fs), some z, some ps => if fs.toList.all (fun f => (sizeT P f.type).isSome) then some (.build z ps) else none
    | _, _, _ => none
  | .makeFunc fn first caps =>
    match fn with
    | .func f => if first = #[] then (cCaps P caps.toList).map (.mkclo f) else none
    | _ => none
  | .buildSlice t n parts =>
    match P.underlying t with
    | some (.slice e) =>
      match zeroT P e, sizeT P e, cRows P e parts.toList with
      | some z, some sz, some ps => if n = 0 ∧ parts.toList = [] ∧ 0 < sz then some (.bs0 sz) else if z.length = sz ∧ 0 < sz ∧ 0 < n ∧ n * sz ≤ 16777216 then some (.bslice sz (List.replicate n z) ps) else none
      | _, _, _ => none
    | _ => none
  | .load t x =>
    match aggT P t, sizeT P t, cOpd P 0 x with
    | some ag, some n, some y => some (.load n ag y)
    | _, _, _ => none
  | .store t x v =>
    match sizeT P t, cOpd P 0 x, cOpd P t v with
    | some n, some y, some z => some (.store n y z)
    | _, _, _ => none
  | .nilCheck x => (cOpd P 0 x).map .nilc
  | .binOp op t x y _ =>
    match cOpd P t x, cOpd P t y with
    | some x', some y' =>
      match P.underlying t with
      | some (.int _) => some (.bin op x' y')
      | some .bool =>
        match op with
        | .eql => some (.eqb false x' y')
        | .neq => some (.eqb true x' y')
        | _ => none
      | some (.struct _) =>
        match op with
        | .eql => if P.eqGuardType P.depth t = false then (flatT P 40 t).map (.eqa false · x' y') else none
        | .neq => if P.eqGuardType P.depth t = false then (flatT P 40 t).map (.eqa true · x' y') else none
        | _ => none
      | some .string =>
        match op with
        | .eql => some (.eqs false x' y')
        | .neq => some (.eqs true x' y')
        | .add => some (.sadd x' y')
        | _ => none
      | some (.slice _) =>
        match op, y' with
        | .eql, .c (.nl _) => some (.nileq false x')
        | .neq, .c (.nl _) => some (.nileq true x')
        | _, _ => none
      | some (.interface _) =>
        match op, y' with
        | .eql, .c (.err (some true)) => some (.ileq false x')
        | .neq, .c (.err (some true)) => some (.ileq true x')
        | _, _ => none
      | _ => none
    | _, _ => none
  | .unOp op _ x => (cOpd P T x).map (.un op)
  | .convert src dst x =>
    match P.underlying src, P.underlying dst, cOpd P src x with
    | some (.int .i64), some (.int .u8), some y => some (.convw y)
    | some (.int _), some (.int k), some y => some (.conv k y)
    | some (.slice e), some .string, some y => match P.underlying e with | some (.int .u8) => some (.bts y) | _ => none
    | _, _, _ => none
  | .makeSlice t l m =>
    match P.underlying t with
    | some (.slice e) =>
      match P.info? e, zeroT P e, cOpd P 0 l, cOpd P 0 m with
      | some i, some z, some a, some b => if z.length = i.size ∧ 0 < i.size then some (.mks i.size i.bytes z a b) else none
      | _, _, _, _ => none
    | _ => none
  | .fieldAddr t x i =>
    match fieldT P t i with
    | some f =>
      match sizeT P f.type, cOpd P 0 x with
      | some n, some y => if 0 < n then some (.faddr f.offset y) else none
      | _, _ => none
    | none => none
  | .field t x i =>
    match fieldT P t i with
    | some f =>
      match aggT P f.type, sizeT P f.type, cOpd P t x with
      | some ag, some n, some y => some (.field f.offset n ag y)
      | _, _, _ => none
    | none => none
  | .indexAddr t x i =>
    match P.underlying t with
    | some (.slice e) =>
      match sizeT P e, cOpd P t x, cOpd P 0 i with
      | some n, some y, some j => some (.iaddr n y j)
      | _, _, _ => none
    | some (.array m e) =>
      match sizeT P e, cOpd P t x, cOpd P 0 i with
      | some n, some y, some j => some (.iarr m n y j)
      | _, _, _ => none
    | _ => none
  | .slice t x lo hi mx =>
    match P.underlying t with
    | some (.slice e) =>
      match mx with
      | some m =>
        match sizeT P e, cOpd P t x, lo.map (cOpd P 0), hi.map (cOpd P 0), cOpd P 0 m with
        | some n, some y, none, some (some h), some m' =>
          match h, m' with
          | .c (.int _ 0), .c (.int _ 0) => some (.emp n y)
          | _, _ => some (.slc3 n y none h m')
        | some n, some y, some (some l), some (some h), some m' => some (.slc3 n y (some l) h m')
        | _, _, _, _, _ => none
      | none =>
      match sizeT P e, cOpd P t x, lo.map (cOpd P 0), hi.map (cOpd P 0) with
      | some n, some y, none, none => some (.slc n y none none)
      | some n, some y, some (some l), none => some (.slc n y (some l) none)
      | some n, some y, none, some (some h) => some (.slc n y none (some h))
      | some n, some y, some (some l), some (some h) => some (.slc n y (some l) (some h))
      | _, _, _, _ => none
    | some .string =>
      match mx, cOpd P t x, lo.map (cOpd P 0), hi.map (cOpd P 0) with
      | none, some y, none, none => some (.sslc y none none)
      | none, some y, some (some l), none => some (.sslc y (some l) none)
      | none, some y, none, some (some h) => some (.sslc y none (some h))
      | none, some y, some (some l), some (some h) => some (.sslc y (some l) (some h))
      | _, _, _, _ => none
    | some (.array m e) =>
      match lo, hi, mx with
      | some l, none, none =>
        match sizeT P e, cOpd P t x, cOpd P 0 l with
        | some n, some y, some j => some (.slca m n y j)
        | _, _, _ => none
      | _, _, _ => none
    | _ => none
  | .index t x i =>
    match P.underlying t with
    | some .string =>
      match cOpd P t x, cOpd P 0 i with
      | some y, some j => some (.sidx y j)
      | _, _ => none
    | _ => none
  | .extract x i => (cOpd P 0 x).map (.ext · i)
  | .call c => cCall P kf c
  | _ => none

/-- What is not known is never come to. -/
def cOpT (P : Program) (kf : Nat → Nat) (op : Op) (T : TypeId) : IOp := (cOp P kf op T).getD .bad

end Go.Vcg
