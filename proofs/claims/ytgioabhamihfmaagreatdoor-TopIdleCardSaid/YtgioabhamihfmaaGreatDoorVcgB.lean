/-
  Single operations of the model do on the world what they do on data, part one. For every program; no conditions but those that each theorem names.
-/
import Derived.Test.YtgioabhamihfmaaGreatDoorVcgA
import Derived.Great.BuildSlice
import Derived.Laws.BytesString
set_option linter.unusedVariables false
set_option linter.unusedSimpArgs false
namespace Go.Vcg

/-! ### What a state says of the machine -/
/-- What was handed in: blocks that may be written, and where its objects lie. -/
structure Env where
  blk : Nat → Prop
  c0 : Cx
def Cx.no : Cx := ⟨fun _ => none, fun _ => .nilFunc, fun _ => false, fun _ => none⟩
def Env.no : Env := ⟨fun _ => False, Cx.no⟩

/-- A row of one's own, in block b, or empty without one. -/
def OwnsR (w : World) (e : TypeId) (size : Nat) (b : Option Nat) (v : Value) (n : Nat) (xs : List Value) : Prop :=
  xs.length = n * size ∧
  (((∃ o, v = .slice o 0 0) ∧ n = 0 ∧ b = none) ∨
   ∃ g cap cur, v = .slice (some ⟨g, 0, none⟩) n cap ∧ b = some g ∧ w.heap[g]? = some (.cells cur e (0, 0)) ∧ n ≤ cap ∧ cap ≤ maxLen ∧ cur.size = cap * size ∧ cur.toList.take (n * size) = xs)

theorem OwnsR.nil (w : World) (e : TypeId) (size : Nat) (o : Option Addr) : OwnsR w e size none (.slice o 0 0) 0 [] := ⟨by simp, .inl ⟨⟨o, rfl⟩, rfl, rfl⟩⟩
theorem OwnsR.one {w : World} {e : TypeId} {size n : Nat} {b : Option Nat} {v : Value} {xs : List Value} (h : OwnsR w e size b v n xs) : v.cells = #[v] ∧ v.oneCell' = true := by
  rcases h.2 with ⟨⟨o, g⟩, _⟩ | ⟨g, cap, cur, g1, _⟩
  · rw [g]; exact ⟨rfl, rfl⟩
  · rw [g1]; exact ⟨rfl, rfl⟩
theorem OwnsR.lt {w : World} {e : TypeId} {size n : Nat} {b : Option Nat} {v : Value} {xs : List Value} (h : OwnsR w e size b v n xs) {x : Nat} (hb : b = some x) : x < w.heap.size := by
  rcases h.2 with ⟨_, _, g⟩ | ⟨g, cap, cur, g1, g2, g3, _⟩
  · rw [g] at hb; cases hb
  · rw [g2] at hb
    cases hb
    exact (Array.getElem?_eq_some_iff.1 g3).1
/-- It stays where its block stays. -/
theorem OwnsR.ext {w w' : World} {e : TypeId} {size n : Nat} {b : Option Nat} {v : Value} {xs : List Value} {Y : Nat → Prop} (h : OwnsR w e size b v n xs) (hE : Ext Y w w') (hY : ∀ x, b = some x → ¬ Y x) : OwnsR w' e size b v n xs := by
  refine ⟨h.1, ?_⟩
  rcases h.2 with g | ⟨g, cap, cur, g1, g2, g3, g4⟩
  · exact .inl g
  · exact .inr ⟨g, cap, cur, g1, g2, by rw [hE.block g (Array.getElem?_eq_some_iff.1 g3).1 (hY g g2)]; exact g3, g4⟩
def PX (X : Nat → Prop) (c : Cx) : Nat → Prop := fun b => X b ∨ (∃ k, c.live k = true ∧ c.ids k = some b) ∨ ∃ k, c.ow b = some k

def D.isSub : D → Bool
  | .sub _ _ | .sbx _ => true
  | _ => false

/-! Reading of cells that have rows of their own: bs: the blocks that they have. -/
mutual
def RdS (X : Nat → Prop) (w : World) : Option Cx → D → Value → List Nat → Prop
  | _, .sub sz es, v, bs => ∃ b T vs, OwnsR w T sz b v es.length vs ∧ RdE X w sz es vs ∧ (∀ u ∈ vs, u.oneCell' = true) ∧ bs = b.toList
  | _, .sbx cs, v, bs => ∃ g T u vs bs', v = .pointer (some ⟨g, 0, none⟩) ∧ OwnsR w T cs.length (some g) u 1 vs ∧ RdSL X w none cs vs bs' ∧ (∀ u ∈ vs, u.oneCell' = true) ∧ bs = g :: bs'
  | c, d, v, bs => Rd X w c d v ∧ bs = []
def RdSL (X : Nat → Prop) (w : World) : Option Cx → List D → List Value → List Nat → Prop
  | _, [], vs, bs => vs = [] ∧ bs = []
  | c, d :: ds, vs, bs => ∃ v r b1 b2, vs = v :: r ∧ RdS X w c d v b1 ∧ RdSL X w c ds r b2 ∧ bs = b1 ++ b2
end
def RdSE (X : Nat → Prop) (w : World) (sz : Nat) : List (List D) → List Value → List Nat → Prop
  | [], vs, bs => vs = [] ∧ bs = []
  | e :: es, vs, bs => ∃ v1 v2 b1 b2, vs = v1 ++ v2 ∧ v1.length = sz ∧ RdSL X w none e v1 b1 ∧ RdSE X w sz es v2 b2 ∧ bs = b1 ++ b2

theorem RdS.of {X : Nat → Prop} {w : World} {c : Option Cx} {d : D} {v : Value} {bs : List Nat} (hd : d.isSub = false) : RdS X w c d v bs ↔ Rd X w c d v ∧ bs = [] := by
  cases d <;> first | (simp [D.isSub] at hd; done) | simp only [RdS]

section
variable {X X' Y : Nat → Prop} {w w' : World}
mutual
theorem RdS.mono (hE : Ext Y w w') (hY : ∀ b, b < w.heap.size → Y b → X b) (hX : ∀ b, b < w.heap.size → X' b → X b) : ∀ (d : D) {c c' : Option Cx} {v : Value} {bs : List Nat}, Cx.le c c' → RdS X w c d v bs → (∀ b ∈ bs, ¬ Y b) → RdS X' w' c' d v bs
  | .sub sz es, c, c', v, bs, _, h, hb => by
    simp only [RdS] at h ⊢
    obtain ⟨b, T, vs, h1, h2, h3, rfl⟩ := h
    exact ⟨b, T, vs, h1.ext hE (fun x hx => hb x (by simp [hx])), RdE.mono hE hY hX es h2, h3, rfl⟩
  | .sbx cs, c, c', v, bs, _, h, hb => by
    simp only [RdS] at h ⊢
    obtain ⟨g, T, u, vs, bs', h1, h2, h3, h4, rfl⟩ := h
    exact ⟨g, T, u, vs, bs', h1, h2.ext hE (fun x hx => hb x (by cases hx; simp)), RdSL.mono hE hY hX cs (c := none) (c' := none) trivial h3 (fun x hx => hb x (by simp [hx])), h4, rfl⟩
  | .int _ _, _, _, _, _, hc, h, _ | .bool _, _, _, _, _, hc, h, _ | .str _, _, _, _, _, hc, h, _ | .nilp, _, _, _, _, hc, h, _ | .nl _, _, _, _, _, hc, h, _ | .agg _, _, _, _, _, hc, h, _ | .tup _, _, _, _, _, hc, h, _ | .fz _ _, _, _, _, _, hc, h, _ | .clo _ _, _, _, _, _, hc, h, _ | .own _ _, _, _, _, _, hc, h, _ | .row _, _, _, _, _, hc, h, _ | .elr _ _ _ _, _, _, _, _, hc, h, _ | .ad _ _ _ _, _, _, _, _, hc, h, _ | .any, _, _, _, _, hc, h, _ | .wh _ _, _, _, _, _, hc, h, _ | .ub, _, _, _, _, hc, h, _ | .err _, _, _, _, _, hc, h, _ | .xad _, _, _, _, _, hc, h, _ | .vw _ _ _ _ _, _, _, _, _, hc, h, _ => by
    rw [RdS.of rfl] at h ⊢
    exact ⟨Rd.mono hE hY hX _ hc h.1, h.2⟩
theorem RdSL.mono (hE : Ext Y w w') (hY : ∀ b, b < w.heap.size → Y b → X b) (hX : ∀ b, b < w.heap.size → X' b → X b) : ∀ (ds : List D) {c c' : Option Cx} {vs : List Value} {bs : List Nat}, Cx.le c c' → RdSL X w c ds vs bs → (∀ b ∈ bs, ¬ Y b) → RdSL X' w' c' ds vs bs
  | [], _, _, _, _, _, h, _ => by simpa only [RdSL] using h
  | d :: ds, _, _, _, _, hc, h, hb => by
    simp only [RdSL] at h ⊢
    obtain ⟨v, r, b1, b2, h1, h2, h3, rfl⟩ := h
    exact ⟨v, r, b1, b2, h1, RdS.mono hE hY hX d hc h2 (fun x hx => hb x (by simp [hx])), RdSL.mono hE hY hX ds hc h3 (fun x hx => hb x (by simp [hx])), rfl⟩
end
theorem RdSE.mono (hE : Ext Y w w') (hY : ∀ b, b < w.heap.size → Y b → X b) (hX : ∀ b, b < w.heap.size → X' b → X b) {sz : Nat} : ∀ (es : List (List D)) {vs : List Value} {bs : List Nat}, RdSE X w sz es vs bs → (∀ b ∈ bs, ¬ Y b) → RdSE X' w' sz es vs bs
  | [], _, _, h, _ => by simpa only [RdSE] using h
  | e :: es, _, _, h, hb => by
    simp only [RdSE] at h ⊢
    obtain ⟨v1, v2, b1, b2, h1, h2, h3, h4, rfl⟩ := h
    exact ⟨v1, v2, b1, b2, h1, h2, RdSL.mono hE hY hX e (c := none) (c' := none) trivial h3 (fun x hx => hb x (by simp [hx])), RdSE.mono hE hY hX es h4 (fun x hx => hb x (by simp [hx])), rfl⟩

theorem RdSL.length {c : Option Cx} : ∀ {ds : List D} {vs : List Value} {bs : List Nat}, RdSL X w c ds vs bs → vs.length = ds.length
  | [], _, _, h => by simp only [RdSL] at h; simp [h.1]
  | d :: ds, _, _, h => by
    simp only [RdSL] at h
    obtain ⟨v, r, b1, b2, rfl, _, h3, _⟩ := h
    simp [h3.length]
theorem RdSL.append {c : Option Cx} : ∀ {ds es : List D} {vs us : List Value} {bs cs : List Nat}, RdSL X w c ds vs bs → RdSL X w c es us cs → RdSL X w c (ds ++ es) (vs ++ us) (bs ++ cs)
  | [], _, _, _, _, _, h, g => by simp only [RdSL] at h; obtain ⟨rfl, rfl⟩ := h; simpa using g
  | d :: ds, _, _, _, _, _, h, g => by
    simp only [RdSL] at h
    obtain ⟨v, r, b1, b2, rfl, h2, h3, rfl⟩ := h
    simp only [List.cons_append, RdSL]
    exact ⟨v, _, b1, _, rfl, h2, h3.append g, by simp⟩
theorem RdSL.split {c : Option Cx} : ∀ (n : Nat) {ds : List D} {vs : List Value} {bs : List Nat}, RdSL X w c ds vs bs → ∃ b1 b2, bs = b1 ++ b2 ∧ RdSL X w c (ds.take n) (vs.take n) b1 ∧ RdSL X w c (ds.drop n) (vs.drop n) b2
  | 0, ds, vs, bs, h => ⟨[], bs, rfl, by simp [RdSL], by simpa using h⟩
  | n + 1, [], vs, bs, h => by
    simp only [RdSL] at h
    obtain ⟨rfl, rfl⟩ := h
    exact ⟨[], [], rfl, by simp [RdSL], by simp [RdSL]⟩
  | n + 1, d :: ds, vs, bs, h => by
    simp only [RdSL] at h
    obtain ⟨v, r, b1, b2, rfl, h2, h3, rfl⟩ := h
    obtain ⟨c1, c2, rfl, g1, g2⟩ := h3.split n
    refine ⟨b1 ++ c1, c2, by simp, ?_, by simpa using g2⟩
    simp only [List.take_succ_cons, RdSL]
    exact ⟨v, _, b1, c1, rfl, h2, g1, rfl⟩
/-- One cell, and what is put in its place. -/
theorem RdSL.at {c : Option Cx} {ds : List D} {vs : List Value} {bs : List Nat} (h : RdSL X w c ds vs bs) {o : Nat} {d : D} (hd : ds[o]? = some d) :
    ∃ b1 b2 b3 v, bs = b1 ++ (b2 ++ b3) ∧ vs[o]? = some v ∧ RdS X w c d v b2 ∧ ∀ d' b2', RdS X w c d' v b2' → RdSL X w c (ds.set o d') vs (b1 ++ (b2' ++ b3)) := by
  obtain ⟨b1, r, rfl, h1, h2⟩ := h.split o
  have hlt : o < ds.length := (List.getElem?_eq_some_iff.1 hd).1
  have hdr : ds.drop o = d :: ds.drop (o + 1) := by
    rw [List.drop_eq_getElem_cons hlt]
    have := (List.getElem?_eq_some_iff.1 hd).2
    rw [this]
  rw [hdr] at h2
  simp only [RdSL] at h2
  obtain ⟨v, r', b2, b3, e1, h3, h4, rfl⟩ := h2
  have hv : vs[o]? = some v := by
    have : (vs.drop o)[0]? = some v := by rw [e1]; rfl
    simpa using this
  refine ⟨b1, b2, b3, v, rfl, hv, h3, fun d' b2' hd' => ?_⟩
  have hvs : vs = vs.take o ++ v :: r' := by rw [← e1, List.take_append_drop]
  have hds : ds.set o d' = ds.take o ++ d' :: ds.drop (o + 1) := by
    rw [List.set_eq_take_append_cons_drop, if_pos hlt]
  rw [hds]
  conv => arg 5; rw [hvs]
  refine h1.append ?_
  simp only [RdSL]
  exact ⟨v, r', b2', b3, rfl, hd', h4, rfl⟩

theorem RdSE.length {sz : Nat} : ∀ {es : List (List D)} {vs : List Value} {bs : List Nat}, RdSE X w sz es vs bs → vs.length = es.length * sz
  | [], _, _, h => by simp only [RdSE] at h; simp [h.1]
  | e :: es, _, _, h => by
    simp only [RdSE] at h
    obtain ⟨v1, v2, _, _, rfl, h2, _, h4, _⟩ := h
    simp [h2, h4.length, Nat.succ_mul, Nat.add_comm]
theorem RdSE.append {sz : Nat} : ∀ {es fs : List (List D)} {vs us : List Value} {bs cs : List Nat}, RdSE X w sz es vs bs → RdSE X w sz fs us cs → RdSE X w sz (es ++ fs) (vs ++ us) (bs ++ cs)
  | [], _, _, _, _, _, h, g => by simp only [RdSE] at h; obtain ⟨rfl, rfl⟩ := h; simpa using g
  | e :: es, _, _, _, _, _, h, g => by
    simp only [RdSE] at h
    obtain ⟨v1, v2, b1, b2, rfl, h2, h3, h4, rfl⟩ := h
    simp only [List.cons_append, RdSE]
    exact ⟨v1, v2 ++ _, b1, _, by simp, h2, h3, h4.append g, by simp⟩
theorem RdSE.split {sz : Nat} : ∀ (n : Nat) {es : List (List D)} {vs : List Value} {bs : List Nat}, RdSE X w sz es vs bs → ∃ b1 b2, bs = b1 ++ b2 ∧ RdSE X w sz (es.take n) (vs.take (n * sz)) b1 ∧ RdSE X w sz (es.drop n) (vs.drop (n * sz)) b2
  | 0, es, vs, bs, h => ⟨[], bs, rfl, by simp [RdSE], by simpa using h⟩
  | n + 1, [], vs, bs, h => by
    simp only [RdSE] at h
    obtain ⟨rfl, rfl⟩ := h
    exact ⟨[], [], rfl, by simp [RdSE], by simp [RdSE]⟩
  | n + 1, e :: es, vs, bs, h => by
    simp only [RdSE] at h
    obtain ⟨v1, v2, b1, b2, rfl, h2, h3, h4, rfl⟩ := h
    obtain ⟨c1, c2, rfl, g1, g2⟩ := h4.split n
    have e1 : (v1 ++ v2).take ((n + 1) * sz) = v1 ++ v2.take (n * sz) := by
      rw [List.take_append, h2, Nat.succ_mul, Nat.add_sub_cancel, List.take_of_length_le (by omega)]
    have e2 : (v1 ++ v2).drop ((n + 1) * sz) = v2.drop (n * sz) := by
      rw [List.drop_append, h2, Nat.succ_mul, Nat.add_sub_cancel, List.drop_eq_nil_of_le (by omega)]; simp
    refine ⟨b1 ++ c1, c2, by simp, ?_, by rw [e2]; simpa using g2⟩
    rw [e1]
    simp only [List.take_succ_cons, RdSE]
    exact ⟨v1, _, b1, c1, rfl, h2, h3, g1, rfl⟩
/-- One element, and what is put in its place. -/
theorem RdSE.at {sz : Nat} {es : List (List D)} {vs : List Value} {bs : List Nat} (h : RdSE X w sz es vs bs) {i : Nat} (hi : i < es.length) :
    ∃ b1 b2 b3, bs = b1 ++ (b2 ++ b3) ∧ RdSL X w none (elem es i) ((vs.drop (i * sz)).take sz) b2 ∧ ((vs.drop (i * sz)).take sz).length = sz ∧
      ∀ e' us b2', us.length = sz → RdSL X w none e' us b2' → RdSE X w sz (es.set i e') (vs.take (i * sz) ++ us ++ vs.drop (i * sz + sz)) (b1 ++ (b2' ++ b3)) := by
  obtain ⟨b1, r, rfl, h1, h2⟩ := h.split i
  have hdr : es.drop i = elem es i :: es.drop (i + 1) := by
    rw [List.drop_eq_getElem_cons hi]
    simp [elem, hi]
  rw [hdr] at h2
  simp only [RdSE] at h2
  obtain ⟨v1, v2, b2, b3, e1, hl, h3, h4, rfl⟩ := h2
  have ht : (vs.drop (i * sz)).take sz = v1 := by rw [e1, ← hl, List.take_left]
  have hd2 : vs.drop (i * sz + sz) = v2 := by rw [← List.drop_drop, e1, ← hl, List.drop_left]
  refine ⟨b1, b2, b3, rfl, by rw [ht]; exact h3, by rw [ht]; exact hl, fun e' us b2' hus he' => ?_⟩
  have hes : es.set i e' = es.take i ++ e' :: es.drop (i + 1) := by rw [List.set_eq_take_append_cons_drop, if_pos hi]
  rw [hes, hd2, List.append_assoc]
  refine h1.append ?_
  simp only [RdSE]
  exact ⟨us, v2, b2', b3, rfl, hus, he', h4, rfl⟩
end

/-- Closed cells have no blocks. -/
theorem RdSL.of_closed {X : Nat → Prop} {w : World} {c : Option Cx} : ∀ {ds : List D} {vs : List Value}, RdL X w c ds vs → RdSL X w c ds vs []
  | [], _, h => by simp only [RdL] at h; simp [RdSL, h]
  | d :: ds, _, h => by
    simp only [RdL] at h
    obtain ⟨v, r, rfl, h2, h3⟩ := h
    simp only [RdSL]
    have hd : d.isSub = false := by cases d <;> first | rfl | (simp only [Rd] at h2)
    exact ⟨v, r, [], [], rfl, (RdS.of hd).2 ⟨h2, rfl⟩, of_closed h3, rfl⟩
theorem RdSE.of_closed {X : Nat → Prop} {w : World} {sz : Nat} : ∀ {es : List (List D)} {vs : List Value}, RdE X w sz es vs → RdSE X w sz es vs []
  | [], _, h => by simp only [RdE] at h; simp [RdSE, h]
  | e :: es, _, h => by
    simp only [RdE] at h
    obtain ⟨v1, v2, rfl, h2, h3, h4⟩ := h
    simp only [RdSE]
    exact ⟨v1, v2, [], [], rfl, h2, RdSL.of_closed h3, of_closed h4, rfl⟩
/-- What is loaded. -/
theorem RdSL.scr {X : Nat → Prop} {w : World} {c : Option Cx} : ∀ {ds : List D} {vs : List Value} {bs : List Nat}, RdSL X w c ds vs bs → RdL X w c (scrL ds) vs
  | [], _, _, h => by simp only [RdSL] at h; simp [scrL, RdL, h.1]
  | d :: ds, _, _, h => by
    simp only [RdSL] at h
    obtain ⟨v, r, b1, b2, rfl, h2, h3, _⟩ := h
    simp only [scrL, RdL]
    refine ⟨v, r, rfl, ?_, h3.scr⟩
    cases d <;> first | (simp only [D.scr, Rd]; done) | exact ((RdS.of rfl).1 h2).1
theorem scrL_length : ∀ ds : List D, (scrL ds).length = ds.length
  | [] => rfl
  | d :: ds => by simp [scrL, scrL_length ds]
/-- Where no cell has blocks, it is read as before. -/
theorem RdSL.plain {X : Nat → Prop} {w : World} {c : Option Cx} : ∀ {ds : List D} {vs : List Value} {bs : List Nat}, RdSL X w c ds vs bs → (ds.all fun d => !d.isSub) = true → RdL X w c ds vs ∧ bs = []
  | [], _, _, h, _ => by simp only [RdSL] at h; simp [RdL, h.1, h.2]
  | d :: ds, _, _, h, ha => by
    simp only [RdSL] at h
    simp only [List.all_cons, Bool.and_eq_true, Bool.not_eq_true'] at ha
    obtain ⟨v, r, b1, b2, rfl, h2, h3, rfl⟩ := h
    obtain ⟨g1, g2⟩ := (RdS.of ha.1).1 h2
    obtain ⟨g3, g4⟩ := h3.plain ha.2
    exact ⟨by simp only [RdL]; exact ⟨v, r, rfl, g1, g3⟩, by rw [g2, g4]; rfl⟩

/-- The blocks are those of object k. -/
def Owd (c : Cx) (k : Nat) (bs : List Nat) : Prop := bs.Nodup ∧ ∀ b ∈ bs, c.ow b = some k
theorem Owd.sub {c : Cx} {k : Nat} {bs bs' : List Nat} (h : Owd c k bs) (hs : bs'.Sublist bs) : Owd c k bs' := ⟨h.1.sublist hs, fun b hb => h.2 b (hs.subset hb)⟩
theorem Owd.nil (c : Cx) (k : Nat) : Owd c k [] := ⟨List.nodup_nil, by simp⟩
theorem sublist_mid {b1 b2 b3 b2' : List Nat} (h : b2'.Sublist b2) : (b1 ++ (b2' ++ b3)).Sublist (b1 ++ (b2 ++ b3)) := (List.Sublist.refl _).append (h.append (List.Sublist.refl _))

/-- Bytes as cells. -/
def u8C (bs : List UInt8) : List Value := bs.map fun x => .int .u8 x.toNat
/-- A strings.Builder: its own address or nil, and its row of bytes; the row is the object's. -/
def BldOK (w : World) (c : Cx) (k : Nat) (U e : TypeId) (bs : List UInt8) : Prop :=
  ∃ b p v g, c.ids k = some b ∧ w.heap[b]? = some (.cells #[p, v] U (0, 0)) ∧ (p = .pointer none ∨ p = .pointer (some ⟨b, 0, none⟩)) ∧ OwnsR w e 1 g v bs.length (u8C bs) ∧ (bs = [] → v = .slice none 0 0) ∧ (∀ x, g = some x → x ≠ b ∧ c.ow x = some k)
def ObOK (X : Nat → Prop) (w : World) (c : Cx) (k : Nat) : Ob → Prop
  | .box cs => ∃ b arr T, c.ids k = some b ∧ w.heap[b]? = some (.cells arr T (0, 0)) ∧ RdL (PX X c) w (some c) cs arr.toList
  | .row sz es => ∃ vs T, OwnsR w T sz (c.ids k) (c.rv k) es.length vs ∧ RdE (PX X c) w sz es vs ∧ (∀ u ∈ vs, u.oneCell' = true)
  | .arr sz es => ∃ b cur T, c.ids k = some b ∧ w.heap[b]? = some (.cells cur T (0, 0)) ∧ cur.size = es.length * sz ∧ es.length ≤ maxLen ∧ RdE (PX X c) w sz es cur.toList
  | .rws sz es => ∃ vs T bs, OwnsR w T sz (c.ids k) (c.rv k) es.length vs ∧ RdSE (PX X c) w sz es vs bs ∧ (∀ u ∈ vs, u.oneCell' = true) ∧ Owd c k bs
  | .rwh sz es i e => i < es.length ∧ ∃ vs T bs cs, OwnsR w T sz (c.ids k) (c.rv k) es.length vs ∧ RdSE (PX X c) w sz (es.set i (List.replicate sz .any)) vs bs ∧ RdSL (PX X c) w (some c) e ((vs.drop (i * sz)).take sz) cs ∧ (∀ u ∈ vs, u.oneCell' = true) ∧ Owd c k (bs ++ cs)
  | .ars sz es => ∃ b cur T bs, c.ids k = some b ∧ w.heap[b]? = some (.cells cur T (0, 0)) ∧ cur.size = es.length * sz ∧ es.length ≤ maxLen ∧ RdSE (PX X c) w sz es cur.toList bs ∧ Owd c k bs
  | .bld U e bs => BldOK w c k U e bs

def Ob.mapc (F : D → D) : Ob → Ob
  | .box cs => .box (cs.map F)
  | .rwh sz es i e => .rwh sz es i (e.map F)
  | o => o
theorem Ob.mapc_id (o : Ob) : o.mapc id = o := by cases o <;> simp [Ob.mapc]
theorem RdL.mapF {X X' : Nat → Prop} {w w' : World} {c c' : Cx} {F : D → D} (hd : ∀ d v, Rd X w (some c) d v → Rd X' w' (some c') (F d) v) : ∀ {ds : List D} {vs : List Value}, RdL X w (some c) ds vs → RdL X' w' (some c') (ds.map F) vs
  | [], _, h => by simpa only [List.map_nil, RdL] using h
  | d :: ds, _, h => by
    simp only [List.map_cons, RdL] at h ⊢
    obtain ⟨v, r, rfl, h2, h3⟩ := h
    exact ⟨v, r, rfl, hd d v h2, h3.mapF hd⟩
theorem RdSL.mapF {X X' Y : Nat → Prop} {w w' : World} {c c' : Cx} {F : D → D} (hE : Ext Y w w') (hY : ∀ b, b < w.heap.size → Y b → X b) (hX : ∀ b, b < w.heap.size → X' b → X b) (hd : ∀ d v, Rd X w (some c) d v → Rd X' w' (some c') (F d) v)
    (hF : ∀ d, (F d).isSub = d.isSub) (hFs : ∀ d, d.isSub = true → F d = d) : ∀ {ds : List D} {vs : List Value} {bs : List Nat}, RdSL X w (some c) ds vs bs → (∀ b ∈ bs, ¬ Y b) → RdSL X' w' (some c') (ds.map F) vs bs
  | [], _, _, h, _ => by simpa only [List.map_nil, RdSL] using h
  | d :: ds, _, _, h, hb => by
    simp only [List.map_cons, RdSL] at h ⊢
    obtain ⟨v, r, b1, b2, rfl, h2, h3, rfl⟩ := h
    refine ⟨v, r, b1, b2, rfl, ?_, h3.mapF hE hY hX hd hF hFs (fun x hx => hb x (by simp [hx])), rfl⟩
    cases hs : d.isSub with
    | false =>
      rw [RdS.of hs] at h2
      rw [RdS.of (by rw [hF, hs])]
      exact ⟨hd d v h2.1, h2.2⟩
    | true =>
      rw [hFs d hs]
      have hb1 : ∀ b ∈ b1, ¬ Y b := fun x hx => hb x (by simp [hx])
      cases d <;> first | (simp [D.isSub] at hs; done) | skip
      · have := RdS.mono hE hY hX (.sub _ _) (c := none) (c' := none) trivial (v := v) (bs := b1) (by simpa only [RdS] using h2) hb1
        simpa only [RdS] using this
      · have := RdS.mono hE hY hX (.sbx _) (c := none) (c' := none) trivial (v := v) (bs := b1) (by simpa only [RdS] using h2) hb1
        simpa only [RdS] using this
/-- An object elsewhere: by another name, its cells turned by F. -/
theorem ObOK.tr {X X' Y : Nat → Prop} {w w' : World} {c c' : Cx} {k k' : Nat} (F : D → D) (hE : Ext Y w w') (hY : ∀ b, b < w.heap.size → Y b → PX X c b) (hX : ∀ b, b < w.heap.size → PX X' c' b → PX X c b)
    (hid : c'.ids k' = c.ids k) (hrv : c'.rv k' = c.rv k) (hk : ∀ b, c.ids k = some b → ¬ Y b) (how : ∀ b, c.ow b = some k → ¬ Y b ∧ c'.ow b = some k')
    (hd : ∀ d v, Rd (PX X c) w (some c) d v → Rd (PX X' c') w' (some c') (F d) v) (hF : ∀ d, (F d).isSub = d.isSub) (hFs : ∀ d, d.isSub = true → F d = d) : ∀ {o : Ob}, ObOK X w c k o → ObOK X' w' c' k' (o.mapc F)
  | .box cs, ⟨b, arr, T, h1, h2, h3⟩ => ⟨b, arr, T, hid.trans h1, by rw [hE.block b (Array.getElem?_eq_some_iff.1 h2).1 (hk b h1)]; exact h2, h3.mapF hd⟩
  | .row sz es, ⟨vs, T, h1, h2, h3⟩ => ⟨vs, T, by rw [hid, hrv]; exact h1.ext hE hk, RdE.mono hE hY hX _ h2, h3⟩
  | .arr sz es, ⟨b, cur, T, h1, h2, h3, h4, h5⟩ => ⟨b, cur, T, hid.trans h1, by rw [hE.block b (Array.getElem?_eq_some_iff.1 h2).1 (hk b h1)]; exact h2, h3, h4, RdE.mono hE hY hX _ h5⟩
  | .rws sz es, ⟨vs, T, bs, h1, h2, h3, h4⟩ => ⟨vs, T, bs, by rw [hid, hrv]; exact h1.ext hE hk, RdSE.mono hE hY hX _ h2 (fun b hb => (how b (h4.2 b hb)).1), h3, h4.1, fun b hb => (how b (h4.2 b hb)).2⟩
  | .rwh sz es i e, ⟨h0, vs, T, bs, cs, h1, h2, h3, h4, h5⟩ => ⟨h0, vs, T, bs, cs, by rw [hid, hrv]; exact h1.ext hE hk, RdSE.mono hE hY hX _ h2 (fun b hb => (how b (h5.2 b (by simp [hb]))).1), h3.mapF hE hY hX hd hF hFs (fun b hb => (how b (h5.2 b (by simp [hb]))).1), h4, h5.1, fun b hb => (how b (h5.2 b hb)).2⟩
  | .ars sz es, ⟨b, cur, T, bs, h1, h2, h3, h4, h5, h6⟩ => ⟨b, cur, T, bs, hid.trans h1, by rw [hE.block b (Array.getElem?_eq_some_iff.1 h2).1 (hk b h1)]; exact h2, h3, h4, RdSE.mono hE hY hX _ h5 (fun b hb => (how b (h6.2 b hb)).1), h6.1, fun b hb => (how b (h6.2 b hb)).2⟩
  | .bld U e bs, ⟨b, p, v, g, h1, h2, h3, h4, h5, h6⟩ => ⟨b, p, v, g, hid.trans h1, by rw [hE.block b (Array.getElem?_eq_some_iff.1 h2).1 (hk b h1)]; exact h2, h3, h4.ext hE (fun x hx => (how x (h6 x hx).2).1), h5, fun x hx => ⟨(h6 x hx).1, (how x (h6 x hx).2).2⟩⟩
/-- It lies in the memory. -/
theorem ObOK.lt {X : Nat → Prop} {w : World} {c : Cx} {k b : Nat} (hb : c.ids k = some b) : ∀ {o : Ob}, ObOK X w c k o → b < w.heap.size
  | .box _, ⟨b', _, _, h1, h2, _⟩ | .arr _ _, ⟨b', _, _, h1, h2, _⟩ | .ars _ _, ⟨b', _, _, _, h1, h2, _⟩ => by
    rw [hb] at h1
    obtain rfl := Option.some.inj h1
    exact (Array.getElem?_eq_some_iff.1 h2).1
  | .row _ _, ⟨_, _, h1, _⟩ | .rws _ _, ⟨_, _, _, h1, _⟩ | .rwh _ _ _ _, ⟨_, _, _, _, _, h1, _⟩ => h1.lt hb
  | .bld _ _ _, ⟨b', _, _, _, h1, h2, _⟩ => by
    rw [hb] at h1
    obtain rfl := Option.some.inj h1
    exact (Array.getElem?_eq_some_iff.1 h2).1

structure Sat (T : Tb) (X : Nat → Prop) (Y : Env) (w0 : World) (c : Cx) (s : St) (a : Act) (w : World) : Prop where
  live : ∀ k, c.live k = (s.lk k).isSome
  tm : RdL (PX X c) w (some c) s.tm a.tmps.toList
  ob : ∀ k o, s.lk k = some o → ObOK X w c k o
  inj : ∀ k k' b, c.live k = true → c.live k' = true → c.ids k = some b → c.ids k' = some b → k = k'
  fresh : ∀ k b, c.live k = true → c.ids k = some b → (w0.heap.size ≤ b ∨ Y.blk b) ∧ ¬ X b
  ext : Ext Y.blk w0 w
  gl : ∀ i, Rd (PX X c) w none (T.gl i) (.pointer (some ⟨i, 0, none⟩))
  Xb : ∀ x, w0.heap.size ≤ x → ¬ X x
  rv1 : ∀ k, c.live k = true → (c.rv k).cells = #[c.rv k] ∧ (c.rv k).oneCell' = true
  dfs : a.defers = []
  base : ∀ k, baseN ≤ k → c.live k = true → Y.c0.ids k = c.ids k ∧ Y.c0.rv k = c.rv k
  owf : ∀ b k, c.ow b = some k → (w0.heap.size ≤ b ∨ Y.blk b) ∧ ¬ X b ∧ b < w.heap.size
  owi : ∀ b k j, c.ow b = some k → c.live j = true → c.ids j ≠ some b

section
variable {P : Program} {T : Tb} {X : Nat → Prop} {Y : Env} {w0 w : World} {c : Cx} {s : St} {a : Act}

theorem Sat.getT (h : Sat T X Y w0 c s a w) (t : Nat) : Rd (PX X c) w (some c) (s.get t) (a.tmps.getD t undef) := by
  unfold St.get
  rw [gtO_eq]
  cases hd : s.tm[t]? with
  | none => simp [hd, Rd]
  | some d =>
    obtain ⟨v, hv, hr⟩ := h.tm.get t d hd
    have : a.tmps[t]? = some v := by simpa using hv
    simp [hd, this, hr]

theorem Rd.un {X : Nat → Prop} {c : Option Cx} {d : D} {v : Value} (h : Rd X w c d v) (hg : d.gu = true) : Rd X w c d.un v := by
  cases d <;> simp only [D.un] <;> try exact h
  rename_i g d
  simp only [Rd] at h
  exact h.1 hg

theorem Rd.val {X : Nat → Prop} {c : Option Cx} {U : TypeId} {v : Value} {d : D} (h : valD P U v = some d) : Rd X w c d v := by
  unfold valD at h
  split at h <;> simp at h <;> subst h <;> simp [Rd]

theorem Rd.closed {X : Nat → Prop} {c : Cx} {d : D} {v : Value} (h : Rd X w none d v) : Rd X w (some c) d v :=
  h.mono (Ext.refl X w) (fun _ _ h => h) (fun _ _ h => h) d (c := none) (c' := some c) trivial

theorem RdL.closedL {X : Nat → Prop} {c : Cx} {ds : List D} {vs : List Value} (h : RdL X w none ds vs) : RdL X w (some c) ds vs :=
  RdL.mono (Ext.refl X w) (fun _ _ h => h) (fun _ _ h => h) ds (c := none) (c' := some c) trivial h

/-- An operand reads as its datum. -/
theorem Sat.opd (h : Sat T X Y w0 c s a w) {U : TypeId} {x : Operand} {y : Opd} (hc : cOpd P U x = some y) : Rd (PX X c) w (some c) (y.ev T s) (a.eval x) := by
  cases x with
  | tmp t => simp [cOpd] at hc; subst hc; exact h.getT t
  | const v =>
    simp [cOpd] at hc
    obtain ⟨d, hd, rfl⟩ := hc
    exact Rd.val hd
  | global g => simp [cOpd] at hc; subst hc; exact (h.gl g).closed
  | func f => simp [cOpd] at hc; subst hc; simp [Opd.ev, Act.eval, Rd, RdL]

theorem Sat.opdU (h : Sat T X Y w0 c s a w) {U : TypeId} {x : Operand} {y : Opd} (hc : cOpd P U x = some y) (hg : (y.ev T s).gu = true) : Rd (PX X c) w (some c) (y.ev T s).un (a.eval x) :=
  (h.opd hc).un hg

/-! ### The temporaries are written -/
theorem Act.put_tmps (a : Act) (dst : Option Nat) (v : Value) : (a.put dst v).tmps.toList = match dst with | some t => a.tmps.toList.set t v | none => a.tmps.toList := by
  cases dst <;> simp [Act.put]

theorem Sat.put (h : Sat T X Y w0 c s a w) (dst : Option Nat) {d : D} {v : Value} (hd : Rd (PX X c) w (some c) d v) : Sat T X Y w0 c (s.set dst d) (a.put dst v) w := by
  refine ⟨?_, ?_, ?_, h.inj, h.fresh, h.ext, h.gl, h.Xb, h.rv1, ?_, h.base, h.owf, h.owi⟩
  · intro k; rw [h.live k]; cases dst <;> rfl
  · rw [Act.put_tmps]
    cases dst with
    | none => exact h.tm
    | some t => simp only [St.set, stO_eq]; exact h.tm.set t hd
  · intro k o ho; exact h.ob k o (by cases dst <;> exact ho)
  · cases dst <;> exact h.dfs

/-- The world goes on, the walk's objects and what is read stay. -/
theorem Sat.world (h : Sat T X Y w0 c s a w) {w' : World} (hE : Ext (fun _ => False) w w') : Sat T X Y w0 c s a w' := by
  have hm : ∀ {d : D} {c' : Option Cx} {v : Value}, Rd (PX X c) w c' d v → Rd (PX X c) w' c' d v := fun {d c' v} hr => Rd.mono hE (fun _ _ h => h.elim) (fun _ _ h => h) d (Cx.le_refl c') hr
  refine ⟨h.live, RdL.mono hE (fun _ _ h => h.elim) (fun _ _ h => h) _ (Cx.le_refl _) h.tm, fun k o ho => ?_, h.inj, h.fresh, h.ext.trans (hE.mono fun _ _ h => h.elim), fun i => hm (h.gl i), h.Xb, h.rv1, h.dfs, h.base, fun b k hb => ⟨(h.owf b k hb).1, (h.owf b k hb).2.1, Nat.lt_of_lt_of_le (h.owf b k hb).2.2 hE.size⟩, h.owi⟩
  have := ObOK.tr id hE (fun _ _ h => h.elim) (fun _ _ h => h) rfl rfl (fun _ _ h => h) (fun b hb => ⟨id, hb⟩) (fun d v hd => hm hd) (fun _ => rfl) (fun _ _ => rfl) (h.ob k o ho)
  rwa [Ob.mapc_id] at this
end

/-! ### Cells -/
theorem addr_add (b o n : Nat) : (⟨b, o, none⟩ : Addr).add n = ⟨b, o + n, none⟩ := by
  unfold Addr.add; split <;> simp_all

theorem CellsAt.cell {w : World} {b o : Nat} {vs : List Value} (h : CellsAt w b o vs) {j : Nat} {v : Value} (hv : vs[j]? = some v) : w.cell? ⟨b, o + j, none⟩ = some v := by
  obtain ⟨arr, U, fr, h1, h2⟩ := h
  simp [World.cell?, h1, h2 j v hv]

theorem CellsAt.sub {w : World} {b o : Nat} {vs : List Value} (h : CellsAt w b o vs) (k n : Nat) : CellsAt w b (o + k) ((vs.drop k).take n) := by
  obtain ⟨arr, U, fr, h1, h2⟩ := h
  refine ⟨arr, U, fr, h1, fun j v hv => ?_⟩
  rw [Nat.add_assoc]
  refine h2 (k + j) v ?_
  rw [List.getElem?_take] at hv
  split at hv
  · simpa using hv
  · simp at hv

theorem CellsAt.of_arr {w : World} {b : Nat} {arr : Array Value} {U : TypeId} {fr : Nat × Nat} (h : w.heap[b]? = some (.cells arr U fr)) : CellsAt w b 0 arr.toList :=
  ⟨arr, U, fr, h, fun j v hv => by simpa using hv⟩

theorem run_isAgg {P : Program} {U : TypeId} {ag : Bool} (h : aggT P U = some ag) (w : World) : (isAgg U).run P w = .ok ag w := by
  unfold aggT at h
  unfold isAgg
  cases hu : P.underlying U with
  | none => simp [hu] at h
  | some d => rw [Sem.run_bind, run_underlying hu w]; cases d <;> simp_all

theorem run_sizeOf {P : Program} {U : TypeId} {n : Nat} (h : sizeT P U = some n) (w : World) : (sizeOf U).run P w = .ok n w := by
  unfold sizeT at h
  cases hi : P.info? U with
  | none => simp [hi] at h
  | some i => simp [hi] at h; simp [sizeOf, typeInfo, hi, h]

/-- Cells as a value. -/
def cutV : Bool → List Value → Value
  | true, vs => .agg vs.toArray
  | false, vs => vs.getD 0 undef

/-- A load of cells that are known. -/
theorem run_load_at {P : Program} {U : TypeId} {ag : Bool} {n : Nat} (ha : aggT P U = some ag) (hn : sizeT P U = some n) {w : World} {b o : Nat} {vs : List Value}
    (h : CellsAt w b o vs) (hl : vs.length = n) (h1 : ag = false → n = 1) :
    (Instr.loadAt U (.pointer (some ⟨b, o, none⟩))).run P w = .ok (cutV ag vs) w := by
  have hcs : (loadCells ⟨b, o, none⟩ n).run P w = .ok vs.toArray w := by
    rw [← hl]
    exact run_loadCells_list (P := P) w ⟨b, o, none⟩ vs (fun j v hv => by rw [addr_add]; exact h.cell hv)
  simp only [Instr.loadAt, Instr.sureAddr, Sem.run_bind, Sem.run_pure, Result.andThen_ok, loadVar, run_isAgg ha]
  cases ag with
  | true => simp only [if_true, Sem.run_bind, run_sizeOf hn, Result.andThen_ok, hcs, Sem.run_pure, cutV]
  | false =>
    have hn1 := h1 rfl
    subst hn1
    match vs, hl with
    | [v], _ =>
      have := h.cell (j := 0) (v := v) rfl
      simp at this
      simp [load, Sem.run, this, cutV]

/-- The datum of what is loaded. -/
theorem RdL.cut {X : Nat → Prop} {w : World} {c : Option Cx} {cs : List D} {vs : List Value} (h : RdL X w c cs vs) (ag : Bool) (off n : Nat) (hl : off + n ≤ cs.length) (h1 : ag = false → n = 1) :
    Rd X w c (cut ag off n cs) (cutV ag ((vs.drop off).take n)) := by
  unfold Vcg.cut cutV
  cases ag with
  | true =>
    simp only [Rd]
    exact ⟨_, rfl, (h.drop off).take n⟩
  | false =>
    have := h1 rfl
    subst this
    have hd : cs[off]? = some (cs[off]'(by omega)) := List.getElem?_eq_getElem (by omega)
    obtain ⟨v, hv, hr⟩ := h.get off _ hd
    simp [hd, hv]
    exact hr
end Go.Vcg

namespace Go.Vcg
section
variable {P : Program} {T : Tb} {X : Nat → Prop} {Y : Env} {w0 w : World} {c : Cx} {s : St} {a : Act}

/-- Operation o yields a value that reads as d, and leaves the world. -/
def Yld (P : Program) (X : Nat → Prop) (c : Cx) (a : Act) (w : World) (o : Oper) (d : D) : Prop :=
  ∃ v, (execOp a.eval o).run P w = .ok (.value v) w ∧ Rd (PX X c) w (some c) d v

theorem yld_of_run {o : Oper} {d : D} {s : Sem Value} {v : Value} (he : execOp a.eval o = (do pure (.value (← s)))) (hr : s.run P w = .ok v w) (hd : Rd (PX X c) w (some c) d v) : Yld P X c a w o d :=
  ⟨v, by rw [he, Sem.run_bind, hr]; rfl, hd⟩

theorem snd_mov (h : Sat T X Y w0 c s a w) {o : Oper} {x : Operand} {y : Opd} {U : TypeId} (ho : o.op = .move x ∨ o.op = .assign x) (hx : cOpd P U x = some y) (hg : (y.ev T s).gu = true) : Yld P X c a w o (y.ev T s).un := by
  refine ⟨a.eval x, ?_, h.opdU hx hg⟩
  rcases ho with ho | ho <;> simp [execOp, ho]

theorem OwnsR.cellsAt {e : TypeId} {size n : Nat} {ob : Option Nat} {v : Value} {xs : List Value} (h : OwnsR w e size ob v n xs) {b : Nat} (hb : ob = some b) : CellsAt w b 0 xs := by
  rcases h.2 with ⟨_, _, g3⟩ | ⟨g, cap, cur, g1, g2, g3, g4, g5, g6, g7⟩
  · rw [hb] at g3; cases g3
  · rw [hb] at g2
    obtain rfl := Option.some.inj g2
    refine ⟨cur, e, (0, 0), g3, fun j v hv => ?_⟩
    rw [← g7, List.getElem?_take] at hv
    split at hv
    · simpa using hv
    · simp at hv
/-- A load through the walk's own box. -/
theorem snd_load (h : Sat T X Y w0 c s a w) {o : Oper} {U : TypeId} {x : Operand} {y : Opd} {ag : Bool} {n : Nat} (ho : o.op = .load U x) (ha : aggT P U = some ag) (hn : sizeT P U = some n) (hx : cOpd P 0 x = some y) (hg : (y.ev T s).gu = true)
    {φ : Prop} {d : D} (hact : act T (.load n ag y) (fun x => (x.ev T s).un) s.lk = some (φ, .val d)) (hφ : φ) : Yld P X c a w o d := by
  have hr := h.opdU hx hg
  have he : execOp a.eval o = (do pure (.value (← Instr.loadAt U (a.eval x)))) := by simp only [execOp, ho]
  simp only [act] at hact
  split at hact
  · rename_i k off hk
    split at hact
    · rename_i cs hlk
      simp only [Option.some.injEq, Prod.mk.injEq, Eff.val.injEq] at hact
      obtain ⟨rfl, rfl⟩ := hact
      obtain ⟨hl, h1⟩ := hφ
      rw [hk] at hr
      simp only [Rd] at hr
      obtain ⟨hlv, b, hb, hv⟩ := hr
      obtain ⟨b', arr, U', e1, e2, e3⟩ := h.ob k _ hlk
      obtain rfl : b' = b := Option.some.inj (e1.symm.trans hb)
      have hlen := e3.length
      have hc := (CellsAt.of_arr e2).sub off n
      rw [Nat.zero_add] at hc
      refine yld_of_run he (by rw [hv]; exact run_load_at ha hn hc (by simp at hlen ⊢; omega) h1) (e3.cut ag off n hl h1)
    · simp at hact
  · rename_i k sz i off hk
    split at hact
    · rename_i sz' es hlk
      simp only [Option.some.injEq, Prod.mk.injEq, Eff.val.injEq] at hact
      obtain ⟨rfl, rfl⟩ := hact
      obtain ⟨rfl, hi, hl, h1⟩ := hφ
      rw [hk] at hr
      simp only [Rd] at hr
      obtain ⟨hlv, b, hb, hv⟩ := hr
      obtain ⟨vs, U', e1, e2, e3⟩ := h.ob k _ hlk
      rcases e1.2 with ⟨g1, g2, g3⟩ | ⟨g, cap, cur, g1, g2, g3, g4, g5, g6, g7⟩
      · rw [hb] at g3; cases g3
      · obtain rfl : b = g := Option.some.inj (hb.symm.trans g2)
        have hei : es[i]? = some (elem es i) := by simp [elem, hi]
        obtain ⟨q1, q2⟩ := e2.get i _ hei
        have hcells : CellsAt w b 0 vs := ⟨cur, U', (0, 0), g3, fun j v hv => by
          rw [← g7, List.getElem?_take] at hv
          split at hv
          · simpa using hv
          · simp at hv⟩
        have hc := (hcells.sub (i * sz') sz').sub off n
        rw [Nat.zero_add] at hc
        refine yld_of_run he (by rw [hv]; exact run_load_at ha hn hc (by rw [List.length_take, List.length_drop, q2]; omega) h1) ?_
        have hlen := q1.length
        exact q1.closedL.cut ag off n (by omega) h1
    · rename_i sz' es hlk
      simp only [Option.some.injEq, Prod.mk.injEq, Eff.val.injEq] at hact
      obtain ⟨rfl, rfl⟩ := hact
      obtain ⟨rfl, hi, hl, h1⟩ := hφ
      rw [hk] at hr
      simp only [Rd] at hr
      obtain ⟨hlv, b, hb, hv⟩ := hr
      obtain ⟨b', cur, U', e1, e2, e3, e4, e5⟩ := h.ob k _ hlk
      obtain rfl : b' = b := Option.some.inj (e1.symm.trans hb)
      have hei : es[i]? = some (elem es i) := by simp [elem, hi]
      obtain ⟨q1, q2⟩ := e5.get i _ hei
      have hc := ((CellsAt.of_arr e2).sub (i * sz') sz').sub off n
      rw [Nat.zero_add] at hc
      refine yld_of_run he (by rw [hv]; exact run_load_at ha hn hc (by rw [List.length_take, List.length_drop, q2]; omega) h1) ?_
      have hlen := q1.length
      exact q1.closedL.cut ag off n (by omega) h1
    · rename_i sz' es hlk
      simp only [Option.some.injEq, Prod.mk.injEq, Eff.val.injEq] at hact
      obtain ⟨rfl, rfl⟩ := hact
      obtain ⟨rfl, hi, hl, h1⟩ := hφ
      rw [hk] at hr
      simp only [Rd] at hr
      obtain ⟨hlv, b, hb, hv⟩ := hr
      obtain ⟨vs, U', bs, e1, e2, e3, e4⟩ := h.ob k _ hlk
      obtain ⟨b1, b2, b3, _, q1, q2, _⟩ := e2.at hi
      have hcells := e1.cellsAt hb
      have hc := (hcells.sub (i * sz') sz').sub off n
      rw [Nat.zero_add] at hc
      refine yld_of_run he (by rw [hv]; exact run_load_at ha hn hc (by rw [List.length_take, List.length_drop, q2]; omega) h1) ?_
      have q3 := q1.scr
      have hlen := q3.length
      exact q3.closedL.cut ag off n (by omega) h1
    · rename_i sz' es i' e hlk
      simp only [Option.some.injEq, Prod.mk.injEq, Eff.val.injEq] at hact
      obtain ⟨rfl, rfl⟩ := hact
      obtain ⟨rfl, rfl, hl, h1⟩ := hφ
      rw [hk] at hr
      simp only [Rd] at hr
      obtain ⟨hlv, b, hb, hv⟩ := hr
      obtain ⟨hi, vs, U', bs, cs, e1, e2, e3, e4, e5⟩ := h.ob k _ hlk
      obtain ⟨_, _, _, _, _, q2, _⟩ := e2.at (i := i) (by simpa using hi)
      have hcells := e1.cellsAt hb
      have hc := (hcells.sub (i * sz') sz').sub off n
      rw [Nat.zero_add] at hc
      refine yld_of_run he (by rw [hv]; exact run_load_at ha hn hc (by rw [List.length_take, List.length_drop, q2]; omega) h1) ?_
      have q3 := e3.scr
      have hlen := q3.length
      exact q3.cut ag off n (by omega) h1
    · simp at hact
  · rename_i sz es i off hk
    simp only [Option.some.injEq, Prod.mk.injEq, Eff.val.injEq] at hact
    obtain ⟨rfl, rfl⟩ := hact
    obtain ⟨hi, hl, h1⟩ := hφ
    rw [hk] at hr
    simp only [Rd] at hr
    obtain ⟨b, ob, vs, hv, hX, _, hcells, hE⟩ := hr
    have hei : es[i]? = some (elem es i) := by simp [elem, hi]
    obtain ⟨q1, q2⟩ := hE.get i _ hei
    have hc := (hcells.sub (i * sz) sz).sub off n
    rw [Nat.add_assoc] at hc
    refine yld_of_run he (by rw [hv]; exact run_load_at ha hn hc (by rw [List.length_take, List.length_drop, q2]; omega) h1) ?_
    have hlen := q1.length
    exact q1.closedL.cut ag off n (by omega) h1
  · simp at hact

end
end Go.Vcg

namespace Go.Vcg
section
variable {P : Program} {T : Tb} {X : Nat → Prop} {Y : Env} {w0 w : World} {c : Cx} {s : St} {a : Act}

theorem fieldT_spec {U : TypeId} {i : Nat} {f : Field} (h : fieldT P U i = some f) : ∃ fs, P.underlying U = some (.struct fs) ∧ fs[i]? = some f := by
  unfold fieldT at h
  split at h
  · exact ⟨_, ‹_›, h⟩
  · simp at h

theorem run_fieldAt' {U : TypeId} {i : Nat} {f : Field} (h : fieldT P U i = some f) {n : Nat} (hn : sizeT P f.type = some n) (h0 : 0 < n) (b o : Nat) :
    (Instr.fieldAt U (.pointer (some ⟨b, o, none⟩)) i).run P w = .ok (.pointer (some ⟨b, o + f.offset, none⟩)) w := by
  obtain ⟨fs, hu, hf⟩ := fieldT_spec h
  have h00 : n ≠ 0 := by omega
  simp [Instr.fieldAt, run_underlying hu, hf, Instr.sureAddr, fieldPlace, run_sizeOf hn, h00, addr_add]

theorem snd_faddr (h : Sat T X Y w0 c s a w) {o : Oper} {U : TypeId} {x : Operand} {i : Nat} {y : Opd} {f : Field} {n : Nat} (ho : o.op = .fieldAddr U x i) (hf : fieldT P U i = some f) (hn : sizeT P f.type = some n) (h0 : 0 < n)
    (hx : cOpd P 0 x = some y) (hg : (y.ev T s).gu = true)
    {φ : Prop} {d : D} (hact : act T (.faddr f.offset y) (fun x => (x.ev T s).un) s.lk = some (φ, .val d)) (hφ : φ) : Yld P X c a w o d := by
  have hr := h.opdU hx hg
  have he : execOp a.eval o = (do pure (.value (← Instr.fieldAt U (a.eval x) i))) := by simp only [execOp, ho]
  simp only [act] at hact
  split at hact
  · rename_i k off hk
    simp only [Option.some.injEq, Prod.mk.injEq, Eff.val.injEq] at hact
    obtain ⟨rfl, rfl⟩ := hact
    rw [hk] at hr
    simp only [Rd] at hr
    obtain ⟨hlv, b, hb, hv⟩ := hr
    exact yld_of_run he (by rw [hv]; exact run_fieldAt' hf hn h0 b off) (by simp only [Rd]; exact ⟨hlv, b, hb, rfl⟩)
  · rename_i k sz i' off hk
    simp only [Option.some.injEq, Prod.mk.injEq, Eff.val.injEq] at hact
    obtain ⟨rfl, rfl⟩ := hact
    rw [hk] at hr
    simp only [Rd] at hr
    obtain ⟨hlv, b, hb, hv⟩ := hr
    exact yld_of_run he (by rw [hv]; exact run_fieldAt' hf hn h0 b _) (by simp only [Rd]; exact ⟨hlv, b, hb, by rw [Nat.add_assoc]⟩)
  · rename_i sz es i' off hk
    simp only [Option.some.injEq, Prod.mk.injEq, Eff.val.injEq] at hact
    obtain ⟨_, rfl⟩ := hact
    rw [hk] at hr
    simp only [Rd] at hr
    obtain ⟨b, ob, vs, hv, hrest⟩ := hr
    exact yld_of_run he (by rw [hv]; exact run_fieldAt' hf hn h0 b _) (by simp only [Rd]; exact ⟨b, ob, vs, by simp only [Nat.add_assoc], hrest⟩)
  · simp at hact

theorem snd_field (h : Sat T X Y w0 c s a w) {o : Oper} {U : TypeId} {x : Operand} {i : Nat} {y : Opd} {f : Field} {n : Nat} {ag : Bool} (ho : o.op = .field U x i) (hf : fieldT P U i = some f) (ha : aggT P f.type = some ag) (hn : sizeT P f.type = some n)
    (hx : cOpd P U x = some y) (hg : (y.ev T s).gu = true)
    {φ : Prop} {d : D} (hact : act T (.field f.offset n ag y) (fun x => (x.ev T s).un) s.lk = some (φ, .val d)) (hφ : φ) : Yld P X c a w o d := by
  have hr := h.opdU hx hg
  obtain ⟨fs, hu, hfs⟩ := fieldT_spec hf
  have he : execOp a.eval o = (do pure (.value (← Instr.field U (a.eval x) i))) := by simp only [execOp, ho]
  simp only [act] at hact
  split at hact
  · rename_i cs hk
    simp only [Option.some.injEq, Prod.mk.injEq, Eff.val.injEq] at hact
    obtain ⟨rfl, rfl⟩ := hact
    obtain ⟨hl, h1⟩ := hφ
    rw [hk] at hr
    simp only [Rd] at hr
    obtain ⟨vs, hv, hr⟩ := hr
    have hlen := hr.length
    refine yld_of_run he ?_ (hr.cut ag f.offset n hl h1)
    simp only [Instr.field, Sem.run_bind, run_underlying hu, Result.andThen_ok, hfs, hv, asAgg, Sem.run_pure, part, run_isAgg ha]
    cases ag with
    | true =>
      simp only [if_true, Sem.run_bind, run_sizeOf hn, Result.andThen_ok, Sem.run_pure, cutV]
      congr 3
      simp [List.extract_eq_take_drop]
    | false =>
      have := h1 rfl
      subst this
      have hd : vs[f.offset]? = some (vs[f.offset]'(by omega)) := List.getElem?_eq_getElem (by omega)
      simp [cutV, hd]
  · simp at hact

theorem run_indexAt' {U e : TypeId} (hu : P.underlying U = some (.slice e)) {n : Nat} (hn : sizeT P e = some n) {b o len cap : Nat} {k : IntKind} {i : Int} (h0 : 0 ≤ i) (h1 : i < len) :
    (Instr.indexAt U (.slice (some ⟨b, o, none⟩) len cap) (.int k i)).run P w = .ok (.pointer (some ⟨b, o + i.toNat * n, none⟩)) w := by
  simp [Instr.indexAt, asIntOf, run_underlying hu, h0, h1, run_sizeOf hn, addr_add]

theorem snd_iaddr (h : Sat T X Y w0 c s a w) {o : Oper} {U e : TypeId} {x i : Operand} {y j : Opd} {n : Nat} (ho : o.op = .indexAddr U x i) (hu : P.underlying U = some (.slice e)) (hn : sizeT P e = some n)
    (hx : cOpd P U x = some y) (hi : cOpd P 0 i = some j) (hg : (y.ev T s).gu = true) (hg' : (j.ev T s).gu = true)
    {φ : Prop} {d : D} (hact : act T (.iaddr n y j) (fun x => (x.ev T s).un) s.lk = some (φ, .val d)) (hφ : φ) : Yld P X c a w o d := by
  have hr := h.opdU hx hg
  have hri := h.opdU hi hg'
  have he : execOp a.eval o = (do pure (.value (← Instr.indexAt U (a.eval x) (a.eval i)))) := by simp only [execOp, ho]
  simp only [act] at hact
  split at hact
  · rename_i sz' es k m hk hk'
    simp only [Option.some.injEq, Prod.mk.injEq, Eff.val.injEq] at hact
    obtain ⟨rfl, rfl⟩ := hact
    obtain ⟨rfl, h0, h1⟩ := hφ
    rw [hk] at hr
    rw [hk'] at hri
    simp only [Rd] at hr hri
    rcases hr with ⟨_, hes⟩ | ⟨b, off, cap, vs, hv, _, _, hX, hc, hE, _⟩
    · subst hes; simp at h1; omega
    · exact yld_of_run he (by rw [hv, hri]; exact run_indexAt' hu hn h0 h1) (by simp only [Rd]; exact ⟨b, off, vs, rfl, hX, by omega, hc, hE⟩)
  · rename_i k kk m hk hk'
    split at hact
    · rename_i sz' es hlk
      simp only [Option.some.injEq, Prod.mk.injEq, Eff.val.injEq] at hact
      obtain ⟨rfl, rfl⟩ := hact
      obtain ⟨rfl, h0, h1⟩ := hφ
      rw [hk] at hr
      rw [hk'] at hri
      simp only [Rd] at hr hri
      obtain ⟨hlv, hv⟩ := hr
      obtain ⟨vs, U', e1, e2, e3⟩ := h.ob k _ hlk
      rcases e1.2 with ⟨g1, g2, _⟩ | ⟨g, cap, cur, g1, g2, g3, g4, g5, g6, g7⟩
      · omega
      · exact yld_of_run he (by rw [hv, g1, hri]; exact run_indexAt' hu hn h0 h1) (by simp only [Rd]; exact ⟨hlv, g, g2, by simp⟩)
    · rename_i sz' es hlk
      simp only [Option.some.injEq, Prod.mk.injEq, Eff.val.injEq] at hact
      obtain ⟨rfl, rfl⟩ := hact
      obtain ⟨rfl, h0, h1⟩ := hφ
      rw [hk] at hr
      rw [hk'] at hri
      simp only [Rd] at hr hri
      obtain ⟨hlv, hv⟩ := hr
      obtain ⟨vs, U', _, e1, _⟩ := h.ob k _ hlk
      rcases e1.2 with ⟨g1, g2, _⟩ | ⟨g, cap, cur, g1, g2, g3, g4, g5, g6, g7⟩
      · omega
      · exact yld_of_run he (by rw [hv, g1, hri]; exact run_indexAt' hu hn h0 h1) (by simp only [Rd]; exact ⟨hlv, g, g2, by simp⟩)
    · rename_i sz' es _ _ hlk
      simp only [Option.some.injEq, Prod.mk.injEq, Eff.val.injEq] at hact
      obtain ⟨rfl, rfl⟩ := hact
      obtain ⟨rfl, h0, h1⟩ := hφ
      rw [hk] at hr
      rw [hk'] at hri
      simp only [Rd] at hr hri
      obtain ⟨hlv, hv⟩ := hr
      obtain ⟨_, vs, U', _, _, e1, _⟩ := h.ob k _ hlk
      rcases e1.2 with ⟨g1, g2, _⟩ | ⟨g, cap, cur, g1, g2, g3, g4, g5, g6, g7⟩
      · omega
      · exact yld_of_run he (by rw [hv, g1, hri]; exact run_indexAt' hu hn h0 h1) (by simp only [Rd]; exact ⟨hlv, g, g2, by simp⟩)
    · simp at hact
  · rename_i k sz' lo m cp kk n' hk hk'
    simp only [Option.some.injEq, Prod.mk.injEq, Eff.val.injEq] at hact
    obtain ⟨rfl, rfl⟩ := hact
    obtain ⟨rfl, h0, h1, h2⟩ := hφ
    rw [hk] at hr
    rw [hk'] at hri
    simp only [Rd] at hr hri
    obtain ⟨hlv, b, off, hb, hv, hoff⟩ := hr
    exact yld_of_run he (by rw [hv, hri]; exact run_indexAt' hu hn h0 h1) (by simp only [Rd]; exact ⟨hlv, b, hb, by rw [hoff (by omega), Nat.add_mul]; simp⟩)
  · simp at hact

theorem snd_iarr (h : Sat T X Y w0 c s a w) {o : Oper} {U e : TypeId} {x i : Operand} {y j : Opd} {n len : Nat} (ho : o.op = .indexAddr U x i) (hu : P.underlying U = some (.array len e)) (hn : sizeT P e = some n)
    (hx : cOpd P U x = some y) (hi : cOpd P 0 i = some j) (hg : (y.ev T s).gu = true) (hg' : (j.ev T s).gu = true)
    {φ : Prop} {d : D} (hact : act T (.iarr len n y j) (fun x => (x.ev T s).un) s.lk = some (φ, .val d)) (hφ : φ) : Yld P X c a w o d := by
  have hr := h.opdU hx hg
  have hri := h.opdU hi hg'
  have he : execOp a.eval o = (do pure (.value (← Instr.indexAt U (a.eval x) (a.eval i)))) := by simp only [execOp, ho]
  simp only [act] at hact
  split at hact
  · rename_i sz' es k m hk hk'
    simp only [Option.some.injEq, Prod.mk.injEq, Eff.val.injEq] at hact
    obtain ⟨rfl, rfl⟩ := hact
    obtain ⟨rfl, rfl, h0, h1⟩ := hφ
    rw [hk] at hr
    rw [hk'] at hri
    simp only [Rd] at hr hri
    obtain ⟨b, off, vs, hv, hX, _, hc, hE⟩ := hr
    refine yld_of_run he (v := .pointer (some ⟨b, off + m.toNat * sz', none⟩)) ?_ (by simp only [Rd]; exact ⟨b, off, vs, rfl, hX, by omega, hc, hE⟩)
    rw [hv, hri]
    simp [Instr.indexAt, asIntOf, run_underlying hu, h0, h1, run_sizeOf hn, addr_add, Instr.sureAddr]
  · simp at hact

/-! ### Numbers -/
theorem wrap_inR {k : IntKind} {n : Int} (h : inR k n) : k.wrap n = n := by
  cases k <;> simp only [inR] at h <;> first | exact h.elim | skip
  all_goals
    simp only [IntKind.wrap, IntKind.bits, IntKind.signed]
    simp
    try split
    all_goals omega

theorem inR_tdiv {k : IntKind} {a b : Int} (h : inR k a) (hb : 0 < b) : inR k (a.tdiv b) := by
  have h1 : a.tdiv b ≤ a ∨ a.tdiv b ≤ 0 := by
    by_cases ha : 0 ≤ a
    · left; rw [Int.tdiv_eq_ediv_of_nonneg ha]; exact Int.ediv_le_self _ ha
    · right
      have : a.tdiv b = -((-a).tdiv b) := by rw [Int.neg_tdiv]; simp
      rw [this, Int.tdiv_eq_ediv_of_nonneg (by omega)]
      have := Int.ediv_nonneg (show 0 ≤ -a by omega) (show 0 ≤ b by omega)
      omega
  have h2 : a ≤ a.tdiv b ∨ 0 ≤ a.tdiv b := by
    by_cases ha : 0 ≤ a
    · right; rw [Int.tdiv_eq_ediv_of_nonneg ha]; exact Int.ediv_nonneg ha (by omega)
    · left
      have : a.tdiv b = -((-a).tdiv b) := by rw [Int.neg_tdiv]; simp
      rw [this, Int.tdiv_eq_ediv_of_nonneg (by omega)]
      have := Int.ediv_le_self b (show 0 ≤ -a by omega)
      omega
  cases k <;> simp only [inR] at h ⊢ <;> omega

theorem run_eqGuard_int (op : BinOp) (U : TypeId) (x y : Operand) (k k' : IntKind) (m n : Int) : (eqGuard op U x y (.int k m) (.int k' n)).run P w = .ok () w := by
  cases op <;> simp [eqGuard]
theorem run_eqGuard_bool (op : BinOp) (U : TypeId) (x y : Operand) (m n : Bool) : (eqGuard op U x y (.bool m) (.bool n)).run P w = .ok () w := by
  cases op <;> simp [eqGuard]

theorem min_bits {k : IntKind} {b : Int} (h0 : 0 ≤ b) (h1 : b ≤ shMax k) : min b.toNat k.bits = b.toNat := by
  cases k <;> simp only [shMax, IntKind.bits] at h1 ⊢ <;> omega

theorem run_binD {op : BinOp} {U : TypeId} {d e r : D} {φ : Prop} (h : binD op d e = some (φ, r)) (hφ : φ) {u v : Value} {X' : Nat → Prop} {c' : Option Cx} (hd : Rd X' w c' d u) (he : Rd X' w c' e v) (x y : Operand) :
    ∃ z, (do eqGuard op U x y u v; binOp op U u v : Sem Value).run P w = .ok z w ∧ Rd X' w c' r z := by
  unfold binD at h
  split at h
  · rename_i k m k' n
    simp only [Rd] at hd he
    subst hd; subst he
    split at h
    · rename_i hsh
      rw [Sem.run_bind, run_eqGuard_int]
      simp only [Result.andThen_ok]
      unfold shD at h
      split at h <;> simp only [Option.some.injEq, Prod.mk.injEq, reduceCtorEq] at h <;> obtain ⟨rfl, rfl⟩ := h
      · obtain ⟨h0, h1, h2⟩ := hφ
        have hm := min_bits h0 h1
        exact ⟨_, by simp [binOp, Op.shift, show ¬ n < 0 by omega, hm]; rfl, by rw [wrap_inR h2]; simp [Rd]⟩
      · obtain ⟨h0, h1⟩ := hφ
        have hm := min_bits h0 h1
        exact ⟨_, by simp [binOp, Op.shift, show ¬ n < 0 by omega, hm]; rfl, by rw [Int.fdiv_eq_ediv_of_nonneg _ (Int.le_of_lt (Int.pow_pos (by omega)))]; simp [Rd]⟩
    split at h
    · rename_i hk
      subst hk
      rw [Sem.run_bind, run_eqGuard_int]
      simp only [Result.andThen_ok]
      split at h <;> simp only [Option.some.injEq, Prod.mk.injEq, reduceCtorEq] at h <;> obtain ⟨rfl, rfl⟩ := h
      · exact ⟨_, by rw [binOp_add]; simp [Op.intArith]; rfl, by rw [wrap_inR hφ]; simp [Rd]⟩
      · exact ⟨_, by rw [binOp_sub]; simp [Op.intArith]; rfl, by rw [wrap_inR hφ]; simp [Rd]⟩
      · exact ⟨_, by rw [binOp_mul]; simp [Op.intArith]; rfl, by rw [wrap_inR hφ]; simp [Rd]⟩
      · have h0 : n ≠ 0 := by omega
        exact ⟨_, by rw [binOp_quo]; simp [Op.intDiv, h0]; rfl, by rw [wrap_inR (inR_tdiv hφ.2 hφ.1)]; simp [Rd]⟩
      · exact ⟨_, by rw [binOp_rem]; simp [Op.intDiv, hφ]; rfl, by simp [Rd]⟩
      · exact ⟨_, by rw [binOp_and]; simp [Op.intBits]; rfl, by simp [Rd, bitsI]⟩
      · exact ⟨_, by rw [binOp_or]; simp [Op.intBits]; rfl, by simp [Rd, bitsI]⟩
      · exact ⟨_, by rw [binOp_eql]; rfl, by simp [Rd]⟩
      · exact ⟨_, by rw [binOp_neq]; rfl, by simp [Rd]⟩
      · exact ⟨_, by rw [binOp_lss]; rfl, by simp [Rd]⟩
      · exact ⟨_, by rw [binOp_leq]; rfl, by simp [Rd]⟩
      · exact ⟨_, by rw [binOp_gtr]; rfl, by simp [Rd]⟩
      · exact ⟨_, by simp [binOp, Op.intCmp]; rfl, by simp [Rd]⟩
    · simp at h
  · simp only [Option.some.injEq, Prod.mk.injEq] at h
    rw [← h.1] at hφ
    exact hφ.elim
  · simp only [Option.some.injEq, Prod.mk.injEq] at h
    rw [← h.1] at hφ
    exact hφ.elim
  · simp at h

theorem snd_bin (h : Sat T X Y w0 c s a w) {o : Oper} {op : BinOp} {U U' : TypeId} {x y : Operand} {x' y' : Opd} (ho : o.op = .binOp op U x y U') (hx : cOpd P U x = some x') (hy : cOpd P U y = some y') (hg : (x'.ev T s).gu = true) (hg' : (y'.ev T s).gu = true)
    {φ : Prop} {d : D} (hact : act T (.bin op x' y') (fun x => (x.ev T s).un) s.lk = some (φ, .val d)) (hφ : φ) : Yld P X c a w o d := by
  have hr := h.opdU hx hg
  have hr' := h.opdU hy hg'
  have he : execOp a.eval o = (do pure (.value (← (do eqGuard op U x y (a.eval x) (a.eval y); binOp op U (a.eval x) (a.eval y))))) := by simp only [execOp, ho]
  simp only [act] at hact
  cases hb : binD op (x'.ev T s).un (y'.ev T s).un with
  | none => simp [hb] at hact
  | some r =>
    obtain ⟨ψ, r⟩ := r
    simp only [hb, Option.map_some, Option.some.injEq, Prod.mk.injEq, Eff.val.injEq] at hact
    obtain ⟨rfl, rfl⟩ := hact
    obtain ⟨z, h1, h2⟩ := run_binD (P := P) (U := U) hb hφ hr hr' x y
    exact yld_of_run he h1 h2

theorem snd_eqb (h : Sat T X Y w0 c s a w) {o : Oper} {neg : Bool} {U U' : TypeId} {x y : Operand} {x' y' : Opd} (hu : P.underlying U = some .bool) (ho : o.op = .binOp (if neg then .neq else .eql) U x y U') (hx : cOpd P U x = some x') (hy : cOpd P U y = some y') (hg : (x'.ev T s).gu = true) (hg' : (y'.ev T s).gu = true)
    {φ : Prop} {d : D} (hact : act T (.eqb neg x' y') (fun x => (x.ev T s).un) s.lk = some (φ, .val d)) : Yld P X c a w o d := by
  have hr := h.opdU hx hg
  have hr' := h.opdU hy hg'
  have he : execOp a.eval o = (do pure (.value (← (do eqGuard (if neg then .neq else .eql) U x y (a.eval x) (a.eval y); binOp (if neg then .neq else .eql) U (a.eval x) (a.eval y))))) := by simp only [execOp, ho]
  simp only [act] at hact
  split at hact
  · rename_i m n hk hk'
    simp only [Option.some.injEq, Prod.mk.injEq, Eff.val.injEq] at hact
    obtain ⟨_, rfl⟩ := hact
    rw [hk] at hr
    rw [hk'] at hr'
    simp only [Rd] at hr hr'
    refine yld_of_run he (v := .bool (if neg then m != n else m == n)) ?_ (by simp only [Rd])
    rw [hr, hr', Sem.run_bind, run_eqGuard_bool]
    have hq := run_equalIn_bool' (P := P) w 9999 U m n hu
    cases neg <;> simp [binOp, Op.equal, Op.maxDepth, hq, bne]
  · simp at hact

/-- The fields of a flat struct, compared one by one. -/
theorem snd_un (h : Sat T X Y w0 c s a w) {o : Oper} {op : UnOp} {U V : TypeId} {x : Operand} {y : Opd} (ho : o.op = .unOp op U x) (hx : cOpd P V x = some y) (hg : (y.ev T s).gu = true)
    {φ : Prop} {d : D} (hact : act T (.un op y) (fun x => (x.ev T s).un) s.lk = some (φ, .val d)) (hφ : φ) : Yld P X c a w o d := by
  have hr := h.opdU hx hg
  have he : execOp a.eval o = (do pure (.value (← Op.unary op (a.eval x)))) := by simp only [execOp, ho]
  simp only [act] at hact
  split at hact
  · rename_i b hk
    simp only [Option.some.injEq, Prod.mk.injEq, Eff.val.injEq] at hact
    obtain ⟨_, rfl⟩ := hact
    rw [hk] at hr
    simp only [Rd] at hr
    exact yld_of_run he (v := .bool (!b)) (by rw [hr]; simp [Op.unary]) (by simp only [Rd])
  · rename_i k n hk
    simp only [Option.some.injEq, Prod.mk.injEq, Eff.val.injEq] at hact
    obtain ⟨rfl, rfl⟩ := hact
    rw [hk] at hr
    simp only [Rd] at hr
    refine yld_of_run he (v := .int k (-n)) ?_ (by simp only [Rd])
    rw [hr]
    simp [Op.unary, Op.intArith, wrap_inR hφ]
  · simp only [Option.some.injEq, Prod.mk.injEq] at hact
    obtain ⟨rfl, _⟩ := hact
    exact hφ.elim
  · simp at hact

theorem snd_conv (h : Sat T X Y w0 c s a w) {o : Oper} {U V : TypeId} {k : IntKind} {x : Operand} {y : Opd} (ho : o.op = .convert U V x) (hU : ∃ k', P.underlying U = some (.int k')) (hV : P.underlying V = some (.int k)) (hx : cOpd P U x = some y) (hg : (y.ev T s).gu = true)
    {φ : Prop} {d : D} (hact : act T (.conv k y) (fun x => (x.ev T s).un) s.lk = some (φ, .val d)) (hφ : φ) : Yld P X c a w o d := by
  have hr := h.opdU hx hg
  obtain ⟨k', hU⟩ := hU
  have he : execOp a.eval o = (do pure (.value (← convert U V (a.eval x)))) := by simp only [execOp, ho]
  simp only [act] at hact
  split at hact
  · rename_i k2 n hk
    simp only [Option.some.injEq, Prod.mk.injEq, Eff.val.injEq] at hact
    obtain ⟨rfl, rfl⟩ := hact
    rw [hk] at hr
    simp only [Rd] at hr
    refine yld_of_run he (v := .int k n) ?_ (by simp only [Rd])
    rw [hr]
    simp [convert, run_underlying hU, run_underlying hV, Conv.intToInt, wrap_inR hφ]
  · simp at hact

theorem snd_convw (h : Sat T X Y w0 c s a w) {o : Oper} {U V : TypeId} {k' : IntKind} {x : Operand} {y : Opd} (ho : o.op = .convert U V x) (hU : P.underlying U = some (.int k')) (hV : P.underlying V = some (.int .u8)) (hx : cOpd P U x = some y) (hg : (y.ev T s).gu = true)
    {φ : Prop} {d : D} (hact : act T (.convw y) (fun x => (x.ev T s).un) s.lk = some (φ, .val d)) : Yld P X c a w o d := by
  have hr := h.opdU hx hg
  have he : execOp a.eval o = (do pure (.value (← convert U V (a.eval x)))) := by simp only [execOp, ho]
  simp only [act] at hact
  split at hact
  · rename_i k2 n hk
    simp only [Option.some.injEq, Prod.mk.injEq, Eff.val.injEq] at hact
    obtain ⟨_, rfl⟩ := hact
    rw [hk] at hr
    simp only [Rd] at hr
    refine yld_of_run he (v := .int .u8 (n % 256)) ?_ (by simp only [Rd])
    rw [hr]
    simp [convert, run_underlying hU, run_underlying hV, Conv.intToInt, IntKind.wrap, IntKind.bits, IntKind.signed]
  · simp at hact

theorem snd_sadd (h : Sat T X Y w0 c s a w) {o : Oper} {U U' : TypeId} {x y : Operand} {x' y' : Opd} (ho : o.op = .binOp .add U x y U') (hx : cOpd P U x = some x') (hy : cOpd P U y = some y') (hg : (x'.ev T s).gu = true) (hg' : (y'.ev T s).gu = true)
    {φ : Prop} {d : D} (hact : act T (.sadd x' y') (fun x => (x.ev T s).un) s.lk = some (φ, .val d)) (hφ : φ) : Yld P X c a w o d := by
  have hr := h.opdU hx hg
  have hr' := h.opdU hy hg'
  have he : execOp a.eval o = (do pure (.value (← (do eqGuard .add U x y (a.eval x) (a.eval y); binOp .add U (a.eval x) (a.eval y))))) := by simp only [execOp, ho]
  simp only [act] at hact
  split at hact
  · rename_i m n hk hk'
    simp only [Option.some.injEq, Prod.mk.injEq, Eff.val.injEq] at hact
    obtain ⟨rfl, rfl⟩ := hact
    rw [hk] at hr
    rw [hk'] at hr'
    simp only [Rd] at hr hr'
    refine yld_of_run he (v := .string ⟨(m ++ n).toArray⟩) ?_ (by simp only [Rd])
    rw [hr, hr']
    have happ : (⟨m.toArray⟩ : ByteArray) ++ ⟨n.toArray⟩ = ⟨(m ++ n).toArray⟩ := by
      apply ByteArray.ext
      simp
    have hsz : ¬ (((⟨m.toArray⟩ : ByteArray).size + (⟨n.toArray⟩ : ByteArray).size : Nat) : Int) > IntKind.i64.max := by
      simp only [ByteArray.size, List.size_toArray, IntKind.max, IntKind.signed, IntKind.bits]
      simp
      omega
    simp only [eqGuard, binOp, Op.stringOp, if_neg hsz, happ, Sem.run_bind, Sem.run_pure, Result.andThen_ok]
    simp
  · simp at hact

theorem snd_eqs (h : Sat T X Y w0 c s a w) {o : Oper} {neg : Bool} {U U' : TypeId} {x y : Operand} {x' y' : Opd} (hu : P.underlying U = some .string) (ho : o.op = .binOp (if neg then .neq else .eql) U x y U') (hx : cOpd P U x = some x') (hy : cOpd P U y = some y') (hg : (x'.ev T s).gu = true) (hg' : (y'.ev T s).gu = true)
    {φ : Prop} {d : D} (hact : act T (.eqs neg x' y') (fun x => (x.ev T s).un) s.lk = some (φ, .val d)) : Yld P X c a w o d := by
  have hr := h.opdU hx hg
  have hr' := h.opdU hy hg'
  have he : execOp a.eval o = (do pure (.value (← (do eqGuard (if neg then .neq else .eql) U x y (a.eval x) (a.eval y); binOp (if neg then .neq else .eql) U (a.eval x) (a.eval y))))) := by simp only [execOp, ho]
  simp only [act] at hact
  split at hact
  · rename_i m n hk hk'
    simp only [Option.some.injEq, Prod.mk.injEq, Eff.val.injEq] at hact
    obtain ⟨_, rfl⟩ := hact
    rw [hk] at hr
    rw [hk'] at hr'
    simp only [Rd] at hr hr'
    refine yld_of_run he (v := .bool (if neg then m != n else m == n)) ?_ (by simp only [Rd])
    rw [hr, hr', Sem.run_bind]
    have hg0 : ∀ op, (eqGuard op U x y (.string ⟨m.toArray⟩) (.string ⟨n.toArray⟩)).run P w = .ok () w := fun op => by cases op <;> simp [eqGuard]
    rw [hg0]
    have hbe : ((⟨m.toArray⟩ : ByteArray).toList == (⟨n.toArray⟩ : ByteArray).toList) = (m == n) := by
      rw [ByteArray.toList_eq, ByteArray.toList_eq]
    cases neg <;> simp [binOp, Op.stringOp, hbe, bne]
  · simp at hact

theorem snd_nilc (h : Sat T X Y w0 c s a w) {o : Oper} {x : Operand} {y : Opd} (ho : o.op = .nilCheck x) (hx : cOpd P 0 x = some y) (hg : (y.ev T s).gu = true)
    {φ : Prop} {d : D} (hact : act T (.nilc y) (fun x => (x.ev T s).un) s.lk = some (φ, .val d)) (hφ : φ) : Yld P X c a w o d := by
  have hr := h.opdU hx hg
  simp only [act] at hact
  split at hact
  · rename_i k off hk
    simp only [Option.some.injEq, Prod.mk.injEq, Eff.val.injEq] at hact
    obtain ⟨rfl, rfl⟩ := hact
    rw [hk] at hr
    have hr0 := hr
    simp only [Rd] at hr
    obtain ⟨hlv, b, hb, hv⟩ := hr
    exact ⟨_, by simp only [execOp, ho, hv]; rfl, hv ▸ hr0⟩
  · rename_i k sz i off hk
    simp only [Option.some.injEq, Prod.mk.injEq, Eff.val.injEq] at hact
    obtain ⟨rfl, rfl⟩ := hact
    rw [hk] at hr
    have hr0 := hr
    simp only [Rd] at hr
    obtain ⟨hlv, b, hb, hv⟩ := hr
    exact ⟨_, by simp only [execOp, ho, hv]; rfl, hv ▸ hr0⟩
  · rename_i sz es i off hk
    simp only [Option.some.injEq, Prod.mk.injEq, Eff.val.injEq] at hact
    obtain ⟨_, rfl⟩ := hact
    rw [hk] at hr
    have hr0 := hr
    simp only [Rd] at hr
    obtain ⟨b, ob, vs, hv, hrest⟩ := hr
    exact ⟨_, by simp only [execOp, ho, hv]; rfl, hv ▸ hr0⟩
  · simp at hact

theorem snd_ext (h : Sat T X Y w0 c s a w) {o : Oper} {x : Operand} {i : Nat} {y : Opd} (ho : o.op = .extract x i) (hx : cOpd P 0 x = some y) (hg : (y.ev T s).gu = true)
    {φ : Prop} {d : D} (hact : act T (.ext y i) (fun x => (x.ev T s).un) s.lk = some (φ, .val d)) (hφ : φ) : Yld P X c a w o d := by
  have hr := h.opdU hx hg
  have he : execOp a.eval o = (do pure (.value (← Instr.extract (a.eval x) i))) := by simp only [execOp, ho]
  simp only [act] at hact
  split at hact
  · rename_i ds hk
    simp only [Option.some.injEq, Prod.mk.injEq, Eff.val.injEq] at hact
    obtain ⟨rfl, rfl⟩ := hact
    rw [hk] at hr
    simp only [Rd] at hr
    obtain ⟨vs, hv, hr⟩ := hr
    have hd : ds[i]? = some (ds[i]'hφ) := List.getElem?_eq_getElem hφ
    obtain ⟨v, hvi, hrv⟩ := hr.get i _ hd
    refine yld_of_run he (v := v) (by rw [hv]; simp [Instr.extract, hvi]) (by simpa [hd] using hrv)
  · simp at hact

theorem run_len_of {o : Oper} {U : TypeId} {x : Operand} (ho : o.op = .call { callee := .builtin .len, args := #[x], argTypes := #[U] }) {v : Value} (hv : (Builtin.len_ #[U] o.type #[a.eval x]).run P w = .ok v w) : (execOp a.eval o).run P w = .ok (.value v) w := by
  unfold execOp
  simp only [ho, resolve, invoke, builtin, Sem.run_bind, Sem.run_pure, Result.andThen_ok, List.map_toArray, List.map_cons, List.map_nil, hv]

theorem snd_len (h : Sat T X Y w0 c s a w) {o : Oper} {U e : TypeId} {x : Operand} {y : Opd} (ho : o.op = .call { callee := .builtin .len, args := #[x], argTypes := #[U] }) (hu : P.underlying U = some (.slice e)) (hx : cOpd P U x = some y) (hg : (y.ev T s).gu = true)
    {φ : Prop} {d : D} (hact : act T (.len y) (fun x => (x.ev T s).un) s.lk = some (φ, .val d)) : Yld P X c a w o d := by
  have hr := h.opdU hx hg
  simp only [act] at hact
  split at hact
  · rename_i sz es hk
    simp only [Option.some.injEq, Prod.mk.injEq, Eff.val.injEq] at hact
    obtain ⟨_, rfl⟩ := hact
    rw [hk] at hr
    simp only [Rd] at hr
    refine ⟨.int .i64 es.length, run_len_of ho ?_, by simp only [Rd]⟩
    rcases hr with ⟨⟨o0, hv⟩, rfl⟩ | ⟨b, off, cap, vs, hv, _⟩ <;> rw [hv]
    · simp [Builtin.len_, run_underlying hu, goInt]
    · simp [Builtin.len_, run_underlying hu, goInt]
  · rename_i hk
    simp only [Option.some.injEq, Prod.mk.injEq, Eff.val.injEq] at hact
    obtain ⟨_, rfl⟩ := hact
    rw [hk] at hr
    simp only [Rd] at hr
    refine ⟨.int .i64 0, run_len_of ho ?_, by simp only [Rd]⟩
    rw [hr]
    simp [Builtin.len_, run_underlying hu, goInt]
  · rename_i k hk
    split at hact
    · rename_i sz es hlk
      simp only [Option.some.injEq, Prod.mk.injEq, Eff.val.injEq] at hact
      obtain ⟨_, rfl⟩ := hact
      rw [hk] at hr
      simp only [Rd] at hr
      obtain ⟨hlv, hv⟩ := hr
      obtain ⟨vs, U', e1, e2, e3⟩ := h.ob k _ hlk
      refine ⟨.int .i64 es.length, run_len_of ho ?_, by simp only [Rd]⟩
      rw [hv]
      rcases e1.2 with ⟨⟨_, g1⟩, g2, _⟩ | ⟨g, cap, cur, g1, _⟩ <;> rw [g1]
      · simp [Builtin.len_, run_underlying hu, goInt, g2]
      · simp [Builtin.len_, run_underlying hu, goInt]
    · rename_i sz es hlk
      simp only [Option.some.injEq, Prod.mk.injEq, Eff.val.injEq] at hact
      obtain ⟨_, rfl⟩ := hact
      rw [hk] at hr
      simp only [Rd] at hr
      obtain ⟨hlv, hv⟩ := hr
      obtain ⟨vs, U', _, e1, _⟩ := h.ob k _ hlk
      refine ⟨.int .i64 es.length, run_len_of ho ?_, by simp only [Rd]⟩
      rw [hv]
      rcases e1.2 with ⟨⟨_, g1⟩, g2, _⟩ | ⟨g, cap, cur, g1, _⟩ <;> rw [g1]
      · simp [Builtin.len_, run_underlying hu, goInt, g2]
      · simp [Builtin.len_, run_underlying hu, goInt]
    · rename_i sz es _ _ hlk
      simp only [Option.some.injEq, Prod.mk.injEq, Eff.val.injEq] at hact
      obtain ⟨_, rfl⟩ := hact
      rw [hk] at hr
      simp only [Rd] at hr
      obtain ⟨hlv, hv⟩ := hr
      obtain ⟨_, vs, U', _, _, e1, _⟩ := h.ob k _ hlk
      refine ⟨.int .i64 es.length, run_len_of ho ?_, by simp only [Rd]⟩
      rw [hv]
      rcases e1.2 with ⟨⟨_, g1⟩, g2, _⟩ | ⟨g, cap, cur, g1, _⟩ <;> rw [g1]
      · simp [Builtin.len_, run_underlying hu, goInt, g2]
      · simp [Builtin.len_, run_underlying hu, goInt]
    · simp at hact
  · rename_i k sz lo n cp hk
    simp only [Option.some.injEq, Prod.mk.injEq, Eff.val.injEq] at hact
    obtain ⟨_, rfl⟩ := hact
    rw [hk] at hr
    simp only [Rd] at hr
    obtain ⟨hlv, b, off, hb, hv, _⟩ := hr
    refine ⟨.int .i64 n, run_len_of ho ?_, by simp only [Rd]⟩
    rw [hv]
    simp [Builtin.len_, run_underlying hu, goInt]
  · simp at hact

theorem run_cap_of {o : Oper} {U : TypeId} {x : Operand} (ho : o.op = .call { callee := .builtin .cap, args := #[x], argTypes := #[U] }) {v : Value} (hv : (Builtin.cap_ #[U] o.type #[a.eval x]).run P w = .ok v w) : (execOp a.eval o).run P w = .ok (.value v) w := by
  unfold execOp
  simp only [ho, resolve, invoke, builtin, Sem.run_bind, Sem.run_pure, Result.andThen_ok, List.map_toArray, List.map_cons, List.map_nil, hv]

theorem snd_capo (h : Sat T X Y w0 c s a w) {o : Oper} {U e : TypeId} {x : Operand} {y : Opd} (ho : o.op = .call { callee := .builtin .cap, args := #[x], argTypes := #[U] }) (hu : P.underlying U = some (.slice e)) (hx : cOpd P U x = some y) (hg : (y.ev T s).gu = true)
    {φ : Prop} {d : D} (hact : act T (.capo y) (fun x => (x.ev T s).un) s.lk = some (φ, .val d)) : Yld P X c a w o d := by
  have hr := h.opdU hx hg
  simp only [act] at hact
  split at hact
  · rename_i k sz lo n cp hk
    simp only [Option.some.injEq, Prod.mk.injEq, Eff.val.injEq] at hact
    obtain ⟨_, rfl⟩ := hact
    rw [hk] at hr
    simp only [Rd] at hr
    obtain ⟨hlv, b, off, hb, hv, _⟩ := hr
    refine ⟨.int .i64 cp, run_cap_of ho ?_, by simp only [Rd]⟩
    rw [hv]
    simp [Builtin.cap_, run_underlying hu, goInt]
  · rename_i sz hk
    simp only [Option.some.injEq, Prod.mk.injEq, Eff.val.injEq] at hact
    obtain ⟨_, rfl⟩ := hact
    rw [hk] at hr
    simp only [Rd] at hr
    refine ⟨.int .i64 0, run_cap_of ho ?_, by simp only [Rd]⟩
    rw [hr]
    simp [Builtin.cap_, run_underlying hu, goInt]
  · simp at hact

theorem run_nileq {U : TypeId} {e : TypeId} (hu : P.underlying U = some (.slice e)) {o : Option Addr} {n cp : Nat} (w : World) : (Op.equal U (.slice o n cp) (.slice none 0 0)).run P w = .ok o.isNone w := by
  have : Op.maxDepth = 9999 + 1 := rfl
  unfold Op.equal
  rw [this]
  unfold Op.equalIn
  cases o <;> simp [run_underlying hu]

theorem run_ileq {U : TypeId} {ms : Array (String × TypeId)} (hu : P.underlying U = some (.interface ms)) {v : Value} {b : Bool} (hv : (v = .nilIface ∧ b = true) ∨ ((∃ t x, v = .iface t x) ∧ b = false)) (w : World) : (Op.equal U v .nilIface).run P w = .ok b w := by
  have : Op.maxDepth = 9999 + 1 := rfl
  unfold Op.equal
  rw [this]
  unfold Op.equalIn
  rcases hv with ⟨rfl, rfl⟩ | ⟨⟨t, x, rfl⟩, rfl⟩ <;> simp [run_underlying hu]
theorem snd_ileq (h : Sat T X Y w0 c s a w) {o : Oper} {neg : Bool} {U U' : TypeId} {ms : Array (String × TypeId)} {x y : Operand} {x' : Opd} (hu : P.underlying U = some (.interface ms)) (ho : o.op = .binOp (if neg then .neq else .eql) U x y U') (hx : cOpd P U x = some x') (hy : cOpd P U y = some (.c (.err (some true)))) (hg : (x'.ev T s).gu = true)
    {φ : Prop} {d : D} (hact : act T (.ileq neg x') (fun x => (x.ev T s).un) s.lk = some (φ, .val d)) : Yld P X c a w o d := by
  have hr := h.opdU hx hg
  obtain ⟨cv, rfl, hcv⟩ : ∃ cv, y = .const cv ∧ valD P U cv = some (.err (some true)) := by
    cases y with
    | const cv => simp only [cOpd, Option.map_eq_some_iff, Opd.c.injEq] at hy; obtain ⟨d0, h1, rfl⟩ := hy; exact ⟨cv, rfl, h1⟩
    | tmp t => simp [cOpd] at hy
    | global g => simp [cOpd] at hy
    | func f => simp [cOpd] at hy
  have hcn : cv = .nilIface := by
    unfold valD at hcv
    split at hcv <;> simp at hcv
    rfl
  subst hcn
  have he : execOp a.eval o = (do pure (.value (← (do eqGuard (if neg then .neq else .eql) U x (.const .nilIface) (a.eval x) (a.eval (.const .nilIface)); binOp (if neg then .neq else .eql) U (a.eval x) (a.eval (.const .nilIface)))))) := by simp only [execOp, ho]
  have hce : a.eval (.const .nilIface) = .nilIface := rfl
  have key : ∀ {v : Value} {b : Bool}, a.eval x = v → ((v = .nilIface ∧ b = true) ∨ ((∃ t x, v = .iface t x) ∧ b = false)) → ∀ {d' : D}, Rd (PX X c) w (some c) d' (.bool (if neg then !b else b)) → Yld P X c a w o d' := by
    intro v b hv hb d' hd
    refine yld_of_run he (v := .bool (if neg then !b else b)) ?_ hd
    rw [hv, hce, Sem.run_bind]
    have hg0 : ∀ op, (eqGuard op U x (.const .nilIface) v .nilIface).run P w = .ok () w := fun op => by
      rcases hb with ⟨rfl, _⟩ | ⟨⟨t, z, rfl⟩, _⟩ <;> cases op <;> simp [eqGuard]
    rw [hg0]
    cases neg
    · simp [binOp, run_ileq hu hb]
    · simp [binOp, run_ileq hu hb]
  simp only [act] at hact
  split at hact
  · rename_i b hk
    simp only [Option.some.injEq, Prod.mk.injEq, Eff.val.injEq] at hact
    obtain ⟨_, rfl⟩ := hact
    rw [hk] at hr
    simp only [Rd] at hr
    rcases hr with ⟨h1, h2⟩ | ⟨h1, h2⟩
    · refine key rfl (b := b) (.inl ⟨h1, by cases b <;> simp at h2 ⊢⟩) (by simp only [Rd])
    · refine key rfl (b := b) (.inr ⟨h1, by cases b <;> simp at h2 ⊢⟩) (by simp only [Rd])
  · rename_i hk
    simp only [Option.some.injEq, Prod.mk.injEq, Eff.val.injEq] at hact
    obtain ⟨_, rfl⟩ := hact
    rw [hk] at hr
    simp only [Rd] at hr
    rcases hr with ⟨h1, h2⟩ | ⟨h1, h2⟩
    · exact key rfl (b := true) (.inl ⟨h1, rfl⟩) (by simp only [Rd]; exact ⟨_, rfl⟩)
    · exact key rfl (b := false) (.inr ⟨h1, rfl⟩) (by simp only [Rd]; exact ⟨_, rfl⟩)
  · simp at hact

theorem snd_nileq (h : Sat T X Y w0 c s a w) {o : Oper} {neg : Bool} {U U' e : TypeId} {x y : Operand} {x' : Opd} {z : Nat} (hu : P.underlying U = some (.slice e)) (ho : o.op = .binOp (if neg then .neq else .eql) U x y U') (hx : cOpd P U x = some x') (hy : cOpd P U y = some (.c (.nl z))) (hg : (x'.ev T s).gu = true)
    {φ : Prop} {d : D} (hact : act T (.nileq neg x') (fun x => (x.ev T s).un) s.lk = some (φ, .val d)) : Yld P X c a w o d := by
  have hr := h.opdU hx hg
  have hr' := h.opd hy
  simp only [Opd.ev, Rd] at hr'
  have he : execOp a.eval o = (do pure (.value (← (do eqGuard (if neg then .neq else .eql) U x y (a.eval x) (a.eval y); binOp (if neg then .neq else .eql) U (a.eval x) (a.eval y))))) := by simp only [execOp, ho]
  have key : ∀ {o1 : Option Addr} {n cp : Nat}, a.eval x = .slice o1 n cp → ∀ {d' : D}, Rd (PX X c) w (some c) d' (.bool (if neg then !o1.isNone else o1.isNone)) → Yld P X c a w o d' := by
    intro o1 n cp hv d' hd
    refine yld_of_run he (v := .bool (if neg then !o1.isNone else o1.isNone)) ?_ hd
    rw [hv, hr', Sem.run_bind]
    have hg0 : ∀ op, (eqGuard op U x y (.slice o1 n cp) (.slice none 0 0)).run P w = .ok () w := fun op => by cases op <;> simp [eqGuard]
    rw [hg0]
    cases neg
    · simp [binOp, run_nileq hu]
    · simp [binOp, run_nileq hu]
  simp only [act] at hact
  split at hact
  · rename_i sz es hk
    simp only [Option.some.injEq, Prod.mk.injEq, Eff.val.injEq] at hact
    obtain ⟨_, rfl⟩ := hact
    rw [hk] at hr
    simp only [Rd] at hr
    split
    · rcases hr with ⟨⟨o0, hv⟩, _⟩ | ⟨b, off, cap, vs, hv, _⟩
      · exact key hv (by simp only [Rd]; exact ⟨_, rfl⟩)
      · exact key hv (by simp only [Rd]; exact ⟨_, rfl⟩)
    · rename_i hne
      rcases hr with ⟨_, hes⟩ | ⟨b, off, cap, vs, hv, _⟩
      · subst hes; simp at hne
      · exact key hv (by simp only [Rd]; cases neg <;> rfl)
  · rename_i sz hk
    simp only [Option.some.injEq, Prod.mk.injEq, Eff.val.injEq] at hact
    obtain ⟨_, rfl⟩ := hact
    rw [hk] at hr
    simp only [Rd] at hr
    exact key hr (by simp only [Rd]; cases neg <;> rfl)
  · rename_i k hk
    split at hact
    · rename_i sz es hlk
      simp only [Option.some.injEq, Prod.mk.injEq, Eff.val.injEq] at hact
      obtain ⟨_, rfl⟩ := hact
      rw [hk] at hr
      simp only [Rd] at hr
      obtain ⟨hlv, hv⟩ := hr
      obtain ⟨vs, U', e1, e2, e3⟩ := h.ob k _ hlk
      rcases e1.2 with ⟨⟨o0, g1⟩, g2, g3⟩ | ⟨g, cap, cur, g1, _⟩
      · refine key (hv.trans g1) ?_
        have h0 : es = [] := List.eq_nil_of_length_eq_zero (by omega)
        subst h0
        simp only [Rd, List.isEmpty_nil, if_true]; exact ⟨_, rfl⟩
      · refine key (hv.trans g1) ?_
        split
        · simp only [Rd]; exact ⟨_, rfl⟩
        · simp only [Rd]; cases neg <;> rfl
    · simp at hact
  · rename_i k sz lo n cp hk
    simp only [Option.some.injEq, Prod.mk.injEq, Eff.val.injEq] at hact
    obtain ⟨_, rfl⟩ := hact
    rw [hk] at hr
    simp only [Rd] at hr
    obtain ⟨hlv, b, off, hb, hv, _⟩ := hr
    exact key hv (by simp only [Rd]; cases neg <;> rfl)
  · simp at hact

theorem cCaps_read (h : Sat T X Y w0 c s a w) : ∀ {xs : List Operand} {ys : List Opd}, cCaps P xs = some ys → gus T s ys → RdL (PX X c) w (some c) (ys.map fun y => (y.ev T s).un) (xs.map a.eval)
  | [], ys, hc, _ => by
    simp only [cCaps, Option.some.injEq] at hc
    subst hc
    simp [RdL]
  | x :: xs, ys, hc, hg => by
    simp only [cCaps] at hc
    split at hc
    · rename_i y l hy hl
      simp only [Option.some.injEq] at hc
      subst hc
      simp only [gus] at hg
      simp only [List.map_cons, RdL]
      exact ⟨_, _, rfl, h.opdU hy hg.1, cCaps_read h hl hg.2⟩
    · cases hc

theorem snd_mkclo (h : Sat T X Y w0 c s a w) {o : Oper} {f : Nat} {caps : Array Operand} {ys : List Opd} (ho : o.op = .makeFunc (.func f) #[] caps) (hc : cCaps P caps.toList = some ys) (hg : gus T s ys) : Yld P X c a w o (.clo f (ys.map fun y => (y.ev T s).un)) := by
  have he : execOp a.eval o = (do pure (.value (← Instr.makeFunc (.func f) ((#[] : Array Operand).map a.eval) (caps.map a.eval)))) := by simp only [execOp, ho]
  refine yld_of_run he (v := .func (.func f) #[] (caps.map a.eval)) (by simp [Instr.makeFunc]) ?_
  simp only [Rd]
  refine ⟨caps.toList.map a.eval, ?_, cCaps_read h hc hg⟩
  rw [← Array.toList_map]

theorem snd_lens (h : Sat T X Y w0 c s a w) {o : Oper} {U : TypeId} {x : Operand} {y : Opd} (ho : o.op = .call { callee := .builtin .len, args := #[x], argTypes := #[U] }) (hu : P.underlying U = some .string) (hx : cOpd P U x = some y) (hg : (y.ev T s).gu = true)
    {φ : Prop} {d : D} (hact : act T (.lens y) (fun x => (x.ev T s).un) s.lk = some (φ, .val d)) : Yld P X c a w o d := by
  have hr := h.opdU hx hg
  simp only [act] at hact
  split at hact
  · rename_i t hk
    simp only [Option.some.injEq, Prod.mk.injEq, Eff.val.injEq] at hact
    obtain ⟨_, rfl⟩ := hact
    rw [hk] at hr
    simp only [Rd] at hr
    refine ⟨.int .i64 t.length, run_len_of ho ?_, by simp only [Rd]⟩
    rw [hr]
    simp only [Builtin.len_, List.getElem?_toArray, List.getElem?_cons_zero, Sem.run_bind, run_underlying hu, Result.andThen_ok, Sem.run_pure, goInt]; rfl
  · simp at hact

theorem snd_mm (h : Sat T X Y w0 c s a w) {o : Oper} {mx : Bool} {U V : TypeId} {x y : Operand} {x' y' : Opd} (ho : o.op = .call { callee := .builtin (if mx then .max else .min), args := #[x, y], argTypes := #[U, V] }) (hx : cOpd P U x = some x') (hy : cOpd P V y = some y') (hg : (x'.ev T s).gu = true) (hg' : (y'.ev T s).gu = true)
    {φ : Prop} {d : D} (hact : act T (.mm mx x' y') (fun x => (x.ev T s).un) s.lk = some (φ, .val d)) : Yld P X c a w o d := by
  have hr := h.opdU hx hg
  have hr' := h.opdU hy hg'
  simp only [act] at hact
  split at hact
  · rename_i k n k' m hk hk'
    split at hact
    · rename_i hkk
      subst hkk
      simp only [Option.some.injEq, Prod.mk.injEq, Eff.val.injEq] at hact
      obtain ⟨_, rfl⟩ := hact
      rw [hk] at hr
      rw [hk'] at hr'
      simp only [Rd] at hr hr'
      refine ⟨.int k (if mx then max n m else min n m), ?_, by simp only [Rd]⟩
      unfold execOp
      cases mx
      · have := Lib.run_min_ints (P := P) w #[U, V] o.type k k n m
        simp [ho, resolve, invoke, builtin, Sem.run_bind, Sem.run_pure, Result.andThen_ok, List.map_toArray, List.map_cons, List.map_nil, hr, hr', this]
      · have := Lib.run_max_ints (P := P) w #[U, V] o.type k k n m
        simp [ho, resolve, invoke, builtin, Sem.run_bind, Sem.run_pure, Result.andThen_ok, List.map_toArray, List.map_cons, List.map_nil, hr, hr', this]
    · simp at hact
  · simp at hact

/-! ### Structs compared -/
theorem eqCells_append : ∀ {ks : List Kd} {a b : List D} {ks' : List Kd} {a' b' : List D} {r : Bool}, eqCells (ks ++ ks') (a ++ a') (b ++ b') = some r → a.length = ks.length → b.length = ks.length →
    ∃ x y, eqCells ks a b = some x ∧ eqCells ks' a' b' = some y ∧ r = (x && y)
  | [], [], [], ks', a', b', r, h, _, _ => ⟨true, r, rfl, by simpa using h, by simp⟩
  | [], _ :: _, _, _, _, _, _, _, h, _ => by simp at h
  | [], [], _ :: _, _, _, _, _, _, _, h => by simp at h
  | _ :: _, [], _, _, _, _, _, _, h, _ => by simp at h
  | _ :: _, _ :: _, [], _, _, _, _, _, _, h => by simp at h
  | k :: ks, x :: a, y :: b, ks', a', b', r, h, h1, h2 => by
    cases k <;> cases x <;> cases y <;> simp only [List.cons_append, eqCells] at h ⊢ <;> (first | (simp at h; done) | skip)
    · split at h
      · rename_i hk
        cases he : eqCells (ks ++ ks') (a ++ a') (b ++ b') with
        | none => simp [he] at h
        | some q =>
          obtain ⟨u, v, e1, e2, e3⟩ := eqCells_append he (by simpa using h1) (by simpa using h2)
          simp [he] at h
          subst h
          exact ⟨_, v, by rw [if_pos hk, e1]; rfl, e2, by rw [e3, Bool.and_assoc]⟩
      · simp at h
    all_goals
      cases he : eqCells (ks ++ ks') (a ++ a') (b ++ b') with
      | none => simp [he] at h
      | some q =>
        obtain ⟨u, v, e1, e2, e3⟩ := eqCells_append he (by simpa using h1) (by simpa using h2)
        simp [he] at h
        subst h
        exact ⟨_, v, by rw [e1]; rfl, e2, by rw [e3, Bool.and_assoc]⟩

theorem eqCells_length : ∀ {ks : List Kd} {a b : List D} {r : Bool}, eqCells ks a b = some r → a.length = ks.length ∧ b.length = ks.length
  | [], [], [], _, _ => ⟨rfl, rfl⟩
  | [], _ :: _, _, _, h => by simp [eqCells] at h
  | [], [], _ :: _, _, h => by simp [eqCells] at h
  | k :: ks, [], _, _, h => by cases k <;> simp [eqCells] at h
  | k :: ks, _ :: _, [], _, h => by cases k <;> simp [eqCells] at h
  | k :: ks, x :: a, y :: b, r, h => by
    cases k <;> cases x <;> cases y <;> simp only [eqCells] at h <;> (first | (simp at h; done) | skip)
    · split at h
      · cases he : eqCells ks a b with
        | none => simp [he] at h
        | some q => have := eqCells_length he; simp [this]
      · simp at h
    all_goals
      cases he : eqCells ks a b with
      | none => simp [he] at h
      | some q => have := eqCells_length he; simp [this]

theorem eqCells_nil : ∀ {a b : List D} {r : Bool}, eqCells [] a b = some r → a = [] ∧ b = [] ∧ r = true
  | [], [], _, h => by simp [eqCells] at h; simp [h]
  | [], _ :: _, _, h => by simp [eqCells] at h
  | _ :: _, _, _, h => by simp [eqCells] at h
theorem eqCells_bool {a b : List D} {r : Bool} (h : eqCells [.bool] a b = some r) : ∃ x y, a = [.bool x] ∧ b = [.bool y] ∧ r = (x == y) := by
  match a, b with
  | [], _ => simp [eqCells] at h
  | x :: a, [] => cases x <;> simp [eqCells] at h
  | x :: a, y :: b =>
    cases x <;> cases y <;> (first | (simp [eqCells] at h; done) | skip)
    rename_i u v
    cases he : eqCells [] a b with
    | none => simp [eqCells, he] at h
    | some q =>
      obtain ⟨rfl, rfl, rfl⟩ := eqCells_nil he
      simp [eqCells] at h
      exact ⟨u, v, rfl, rfl, h.symm⟩
theorem eqCells_str {a b : List D} {r : Bool} (h : eqCells [.str] a b = some r) : ∃ x y, a = [.str x] ∧ b = [.str y] ∧ r = (x == y) := by
  match a, b with
  | [], _ => simp [eqCells] at h
  | x :: a, [] => cases x <;> simp [eqCells] at h
  | x :: a, y :: b =>
    cases x <;> cases y <;> (first | (simp [eqCells] at h; done) | skip)
    rename_i u v
    cases he : eqCells [] a b with
    | none => simp [eqCells, he] at h
    | some q =>
      obtain ⟨rfl, rfl, rfl⟩ := eqCells_nil he
      simp [eqCells] at h
      exact ⟨u, v, rfl, rfl, h.symm⟩
theorem eqCells_int {a b : List D} {r : Bool} (h : eqCells [.int] a b = some r) : ∃ k x y, a = [.int k x] ∧ b = [.int k y] ∧ r = (x == y) := by
  match a, b with
  | [], _ => simp [eqCells] at h
  | x :: a, [] => cases x <;> simp [eqCells] at h
  | x :: a, y :: b =>
    cases x <;> cases y <;> (first | (simp [eqCells] at h; done) | skip)
    rename_i k u k' v
    simp only [eqCells] at h
    split at h
    · rename_i hk
      subst hk
      cases he : eqCells [] a b with
      | none => simp [he] at h
      | some q =>
        obtain ⟨rfl, rfl, rfl⟩ := eqCells_nil he
        simp [he] at h
        exact ⟨k, u, v, rfl, rfl, h.symm⟩
    · simp at h

/-- A value of a flat type out of its cells. -/
def flatV (P : Program) (U : TypeId) (us : List Value) : Value := match aggT P U with | some true => .agg us.toArray | _ => us.getD 0 undef

theorem byteArray_beq (a b : List UInt8) : ((⟨a.toArray⟩ : ByteArray) == ⟨b.toArray⟩) = (a == b) := by
  show ((a.toArray : Array UInt8) == b.toArray) = _
  simp

mutual
theorem run_equal_flat : ∀ (n : Nat) {U : TypeId} {ks : List Kd}, flatT P n U = some ks → ∀ {ds es : List D} {us vs : List Value} {r : Bool} {Z : Nat → Prop} {cx : Option Cx}, eqCells ks ds es = some r → RdL Z w cx ds us → RdL Z w cx es vs →
    ∀ d, n < d → (Op.equalIn d U (flatV P U us) (flatV P U vs)).run P w = .ok r w
  | 0, _, _, h, _, _, _, _, _, _, _, _, _, _, _, _ => by simp [flatT] at h
  | n + 1, U, ks, h, ds, es, us, vs, r, Z, cx, he, hd, hv, d, hn => by
    obtain ⟨d, rfl⟩ : ∃ d', d = d' + 1 := ⟨d - 1, by omega⟩
    simp only [flatT] at h
    split at h
    · rename_i hu
      simp at h; subst h
      have : aggT P U = some false := by simp [aggT, hu]
      simp only [flatV, this]
      obtain ⟨x, y, rfl, rfl, rfl⟩ := eqCells_bool he
      simp only [RdL, Rd] at hd hv
      obtain ⟨_, _, rfl, rfl, rfl⟩ := hd
      obtain ⟨_, _, rfl, rfl, rfl⟩ := hv
      exact run_equalIn_bool' (P := P) w d U x y hu
    · rename_i k hu
      simp at h; subst h
      have : aggT P U = some false := by simp [aggT, hu]
      simp only [flatV, this]
      obtain ⟨k1, x, y, rfl, rfl, rfl⟩ := eqCells_int he
      simp only [RdL, Rd] at hd hv
      obtain ⟨_, _, rfl, rfl, rfl⟩ := hd
      obtain ⟨_, _, rfl, rfl, rfl⟩ := hv
      exact run_equalIn_int (P := P) w d U k1 k x y hu
    · rename_i hu
      simp at h; subst h
      have : aggT P U = some false := by simp [aggT, hu]
      simp only [flatV, this]
      obtain ⟨x, y, rfl, rfl, rfl⟩ := eqCells_str he
      simp only [RdL, Rd] at hd hv
      obtain ⟨_, _, rfl, rfl, rfl⟩ := hd
      obtain ⟨_, _, rfl, rfl, rfl⟩ := hv
      simp only [List.getD_cons_zero, Op.equalIn, Sem.run_bind, run_underlying hu, Result.andThen_ok, Sem.run_pure, byteArray_beq]
    · rename_i fs hu
      split at h
      · simp at h
      · rename_i hs
        have : aggT P U = some true := by simp [aggT, hu]
        simp only [flatV, this]
        have hfo : P.fieldsOf U = fs := by simp [Program.fieldsOf, hu]
        rw [run_equalIn_struct w d U us.toArray vs.toArray (by rw [hfo]; exact hu) (by simpa using hs), hfo]
        have := run_eqFields_flat n h (off := 0) (pre := []) (pre' := []) (us := us) (vs := vs) (by simp) (by simp) he hd hv d (by omega)
        simpa using this
    · simp at h
theorem run_eqFields_flat : ∀ (n : Nat) {off : Nat} {fs : List Field} {ks : List Kd}, flatF P n off fs = some ks → ∀ {pre pre' us vs : List Value} {ds es : List D} {r : Bool} {Z : Nat → Prop} {cx : Option Cx}, pre.length = off → pre'.length = off →
    eqCells ks ds es = some r → RdL Z w cx ds us → RdL Z w cx es vs → ∀ d, n < d + 1 → (Op.eqFields d (pre ++ us).toArray (pre' ++ vs).toArray fs).run P w = .ok r w
  | n, off, [], ks, h, pre, pre', us, vs, ds, es, r, Z, cx, hp, hp', he, hd, hv, d, hn => by
    simp [flatF] at h
    subst h
    have hl := eqCells_length he
    match ds, es, he with
    | [], [], he => simp [eqCells] at he; subst he; simp [Op.eqFields]
  | 0, off, _ :: _, ks, h, _, _, _, _, _, _, _, _, _, _, _, _, _, _, _, _ => by simp [flatF] at h
  | n + 1, off, f :: fs, ks, h, pre, pre', us, vs, ds, es, r, Z, cx, hp, hp', he, hd, hv, d, hn => by
    simp only [flatF] at h
    split at h
    · rename_i k1 hk1
      split at h
      · rename_i hcond
        obtain ⟨hname, hoff, hsz⟩ := hcond
        cases hrest : flatF P n (off + k1.length) fs with
        | none => simp [hrest] at h
        | some k2 =>
          simp [hrest] at h
          subst h
          have hl := eqCells_length he
          simp at hl
          have ed : ds = ds.take k1.length ++ ds.drop k1.length := (List.take_append_drop _ _).symm
          have ee : es = es.take k1.length ++ es.drop k1.length := (List.take_append_drop _ _).symm
          rw [ed, ee] at he
          obtain ⟨x, y, h1, h2, rfl⟩ := eqCells_append he (by rw [List.length_take]; omega) (by rw [List.length_take]; omega)
          have lu := hd.length
          have lv := hv.length
          have part1 : ∀ (p z : List Value), p.length = off → k1.length ≤ z.length → (part f.type (p ++ z).toArray f.offset).run P w = .ok (flatV P f.type (z.take k1.length)) w := by
            intro p z hpl hz
            have hag : ∃ ag, aggT P f.type = some ag ∧ (ag = false → k1.length = 1) := by
              cases n with
              | zero => simp [flatT] at hk1
              | succ n =>
                simp only [flatT] at hk1
                split at hk1
                · rename_i hu; simp at hk1; subst hk1; exact ⟨false, by simp [aggT, hu], fun _ => rfl⟩
                · rename_i hu; simp at hk1; subst hk1; exact ⟨false, by simp [aggT, hu], fun _ => rfl⟩
                · rename_i hu; simp at hk1; subst hk1; exact ⟨false, by simp [aggT, hu], fun _ => rfl⟩
                · rename_i hu; exact ⟨true, by simp [aggT, hu], by simp⟩
                · simp at hk1
            obtain ⟨ag, hag, h1⟩ := hag
            simp only [part, Sem.run_bind, run_isAgg hag, Result.andThen_ok, hoff]
            cases ag with
            | true =>
              simp only [if_true, Sem.run_bind, run_sizeOf hsz, Result.andThen_ok, Sem.run_pure, flatV, hag]
              congr 2
              simp only [List.extract_toArray, List.extract_eq_take_drop, ← hpl]
              simp
            | false =>
              have hone := h1 rfl
              have hz0 : 0 < z.length := by omega
              have : (p ++ z)[off]? = some (z[0]'hz0) := by rw [← hpl]; simp [hz0]
              simp [flatV, hag, this, hone, hz0]
          have hfield := run_equal_flat n hk1 h1 (hd.take k1.length) (hv.take k1.length) d (by omega)
          have hrec := run_eqFields_flat n hrest (pre := pre ++ us.take k1.length) (pre' := pre' ++ vs.take k1.length) (us := us.drop k1.length) (vs := vs.drop k1.length)
            (by rw [List.length_append, List.length_take]; omega) (by rw [List.length_append, List.length_take]; omega) h2 (hd.drop k1.length) (hv.drop k1.length) d (by omega)
          simp only [List.append_assoc, List.take_append_drop] at hrec
          simp only [Op.eqFields, if_pos hname, Sem.run_bind, part1 pre us hp (by omega), part1 pre' vs hp' (by omega), Result.andThen_ok, hfield]
          cases x
          · simp
          · simpa using hrec
      · simp at h
    · simp at h
end

theorem snd_eqa (h : Sat T X Y w0 c s a w) {o : Oper} {neg : Bool} {U U' : TypeId} {x y : Operand} {x' y' : Opd} {ks : List Kd} (hag : aggT P U = some true) (hq : P.eqGuardType P.depth U = false) (hfl : flatT P 40 U = some ks) (ho : o.op = .binOp (if neg then .neq else .eql) U x y U') (hx : cOpd P U x = some x') (hy : cOpd P U y = some y') (hg : (x'.ev T s).gu = true) (hg' : (y'.ev T s).gu = true)
    {φ : Prop} {d : D} (hact : act T (.eqa neg ks x' y') (fun x => (x.ev T s).un) s.lk = some (φ, .val d)) : Yld P X c a w o d := by
  have hr := h.opdU hx hg
  have hr' := h.opdU hy hg'
  have he : execOp a.eval o = (do pure (.value (← (do eqGuard (if neg then .neq else .eql) U x y (a.eval x) (a.eval y); binOp (if neg then .neq else .eql) U (a.eval x) (a.eval y))))) := by simp only [execOp, ho]
  simp only [act] at hact
  split at hact
  · rename_i m n hk hk'
    cases hc : eqCells ks m n with
    | none => simp [hc] at hact
    | some r =>
      simp only [hc, Option.map_some, Option.some.injEq, Prod.mk.injEq, Eff.val.injEq] at hact
      obtain ⟨_, rfl⟩ := hact
      rw [hk] at hr
      rw [hk'] at hr'
      simp only [Rd] at hr hr'
      obtain ⟨us, hu, hr⟩ := hr
      obtain ⟨vs, hv, hr'⟩ := hr'
      have hrun := run_equal_flat 40 hfl hc hr hr' 10000 (by omega)
      simp only [flatV, hag] at hrun
      refine yld_of_run he (v := .bool (if neg then !r else r)) ?_ (by simp only [Rd])
      rw [hu, hv, Sem.run_bind, run_eqGuard_agg _ _ _ _ _ _ _ hq]
      cases neg
      · simp only [Result.andThen_ok, Bool.false_eq_true, if_false]; rw [run_eql_struct, hrun]; rfl
      · simp only [Result.andThen_ok, if_true]; rw [run_neq_struct, hrun]; rfl
  · simp at hact
end
end Go.Vcg

namespace Go.Vcg
section
variable {P : Program} {T : Tb} {X : Nat → Prop} {Y : Env} {w0 w : World} {c : Cx} {s : St} {a : Act}

theorem fold_set (off : Nat) : ∀ (vs : List Value) (k : Nat) (cs : Array Value), off + k + vs.length ≤ cs.size →
    (vs.zipIdx k).foldl (fun cs (p : Value × Nat) => cs.setIfInBounds (off + p.2) p.1) cs = (cs.toList.take (off + k) ++ vs ++ cs.toList.drop (off + k + vs.length)).toArray
  | [], k, cs, h => by simp
  | v :: vs, k, cs, h => by
    simp at h
    have hlt : off + k < cs.size := by omega
    simp only [List.zipIdx_cons, List.foldl_cons]
    rw [fold_set off vs (k + 1) _ (by simp; omega)]
    congr 1
    simp only [Array.toList_setIfInBounds, List.length_cons]
    have h1 : (cs.toList.set (off + k) v).take (off + (k + 1)) = cs.toList.take (off + k) ++ [v] := by
      rw [show off + (k + 1) = off + k + 1 by omega, List.take_succ_eq_append_getElem (by simpa using hlt), List.take_set_of_le (by omega)]
      simp
    have h2 : (cs.toList.set (off + k) v).drop (off + (k + 1) + vs.length) = cs.toList.drop (off + k + (vs.length + 1)) := by
      rw [List.drop_set_of_lt (by omega)]
      congr 1; omega
    rw [h1, h2]
    simp

theorem fill_cons {place : Nat → Option (Nat × Nat)} {cells : Array Value} {i : Nat} {v : Value} {rest : List (Nat × Value)} {off n : Nat} (hp : place i = some (off, n)) (hn : v.cells.size = n) (hl : off + n ≤ cells.size) :
    Instr.fill place cells ((i, v) :: rest) = Instr.fill place (cells.toList.take off ++ v.cells.toList ++ cells.toList.drop (off + n)).toArray rest := by
  have h1 : ¬ (v.cells.size ≠ n ∨ off + v.cells.size > cells.size) := by omega
  have hf : v.cells.zipIdx.foldl (fun cs (p : Value × Nat) => cs.setIfInBounds (off + p.2) p.1) cells = (cells.toList.take off ++ v.cells.toList ++ cells.toList.drop (off + n)).toArray := by
    rw [← Array.foldl_toList, Array.toList_zipIdx, fold_set off v.cells.toList 0 cells (by simpa [hn] using hl)]
    simp [hn]
  simp only [Instr.fill, hp]
  rw [if_neg (by simpa using h1)]
  exact congrArg (fun q => Instr.fill place q rest) hf

theorem ObOK.row_cells {k : Nat} {sz : Nat} {es : List (List D)} (h : ObOK X w c k (.row sz es)) : (c.rv k).cells = #[c.rv k] ∧ (c.rv k).oneCell' = true := by
  obtain ⟨vs, U, h1, _⟩ := h
  exact h1.one

/-- A datum of one cell is a value of one cell. -/
theorem Sat.one (hS : Sat T X Y w0 c s a w) {d : D} {v : Value} (h : Rd (PX X c) w (some c) d v) (hc : d.cell' = true) : v.cells = #[v] ∧ v.oneCell' = true := by
  cases d <;> simp only [D.cell', Bool.false_eq_true] at hc
  case int k n => simp only [Rd] at h; subst h; exact ⟨rfl, rfl⟩
  case bool b => simp only [Rd] at h; subst h; exact ⟨rfl, rfl⟩
  case str b => simp only [Rd] at h; subst h; exact ⟨rfl, rfl⟩
  case nilp => simp only [Rd] at h; subst h; exact ⟨rfl, rfl⟩
  case nl => simp only [Rd] at h; subst h; exact ⟨rfl, rfl⟩
  case fz sz es => simp only [Rd] at h; rcases h with ⟨⟨_, rfl⟩, _⟩ | ⟨b, off, cap, vs, rfl, _⟩ <;> exact ⟨rfl, rfl⟩
  case err o => simp only [Rd] at h; rcases h with ⟨rfl, _⟩ | ⟨⟨t, x, rfl⟩, _⟩ <;> exact ⟨rfl, rfl⟩
  case clo f caps => simp only [Rd] at h; obtain ⟨vs, rfl, _⟩ := h; exact ⟨rfl, rfl⟩
  case own k off =>
    simp only [Rd] at h
    obtain ⟨_, b, _, rfl⟩ := h
    exact ⟨rfl, rfl⟩
  case elr k sz i off =>
    simp only [Rd] at h
    obtain ⟨_, b, _, rfl⟩ := h
    exact ⟨rfl, rfl⟩
  case ad sz es i off => simp only [Rd] at h; obtain ⟨b, ob, vs, rfl, _⟩ := h; exact ⟨rfl, rfl⟩
  case row k =>
    simp only [Rd] at h
    obtain ⟨hl, rfl⟩ := h
    exact hS.rv1 k hl
  case ub => simp only [Rd] at h; obtain ⟨b, rfl⟩ := h; exact ⟨rfl, rfl⟩
  case vw k sz lo n cp => simp only [Rd] at h; obtain ⟨_, b, o, _, rfl, _⟩ := h; exact ⟨rfl, rfl⟩

theorem Sat.ones (hS : Sat T X Y w0 c s a w) : ∀ {ds : List D} {vs : List Value}, RdL (PX X c) w (some c) ds vs → ds.all D.cell' = true → ∀ u ∈ vs, u.oneCell' = true
  | [], _, h, _, u, hu => by simp only [RdL] at h; subst h; simp at hu
  | d :: ds, _, h, hc, u, hu => by
    simp only [RdL] at h
    obtain ⟨v, r, rfl, h1, h2⟩ := h
    simp only [List.all_cons, Bool.and_eq_true] at hc
    rcases List.mem_cons.1 hu with rfl | hu
    · exact (hS.one h1 hc.1).2
    · exact hS.ones h2 hc.2 u hu

/-- The cells of a value that reads as a datum. -/
theorem Sat.cells (hS : Sat T X Y w0 c s a w) {d : D} {v : Value} (h : Rd (PX X c) w (some c) d v) (hc : d.cells.all D.cell' = true) : RdL (PX X c) w (some c) d.cells v.cells.toList := by
  by_cases hd : ∃ cs, d = .agg cs
  · obtain ⟨cs, rfl⟩ := hd
    simp only [Rd] at h
    obtain ⟨vs, rfl, h⟩ := h
    simpa [D.cells, Value.cells] using h
  · have hdc : d.cells = [d] := by cases d <;> first | rfl | exact absurd ⟨_, rfl⟩ hd
    rw [hdc] at hc ⊢
    simp only [List.all_cons, List.all_nil, Bool.and_true] at hc
    rw [(hS.one h hc).1]
    simp only [RdL]
    exact ⟨v, [], rfl, h, rfl⟩

theorem cell_cell' {d : D} (h : d.cell = true) : d.cell' = true := by
  cases d <;> simp [D.cell] at h <;> simp [D.cell']
theorem Rd.open_ {Z : Nat → Prop} {cx : Cx} {d : D} {v : Value} (h : Rd Z w (some cx) d v) (hc : d.cell = true) : Rd Z w none d v := by
  cases d <;> simp [D.cell] at hc <;> (simp only [Rd] at h ⊢; exact h)

theorem Rd.pl {Z : Nat → Prop} {cx : Option Cx} {d : D} {v : Value} (h : Rd Z w cx d v) : Rd Z w cx d.pl v := by
  cases d <;> simp only [D.pl] <;> try exact h
  simp only [Rd] at h ⊢
  exact .inl ⟨⟨none, h⟩, trivial⟩
theorem RdL.pl {Z : Nat → Prop} {cx : Option Cx} : ∀ {ds : List D} {vs : List Value}, RdL Z w cx ds vs → RdL Z w cx (ds.map D.pl) vs
  | [], _, h => by simpa only [List.map_nil, RdL] using h
  | d :: ds, _, h => by
    simp only [List.map_cons, RdL] at h ⊢
    obtain ⟨v, r, h1, h2, h3⟩ := h
    exact ⟨v, r, h1, h2.pl, h3.pl⟩

/-- Cells that refer to no object. -/
theorem RdL.open_ {Z : Nat → Prop} {cx : Cx} : ∀ {ds : List D} {vs : List Value}, RdL Z w (some cx) ds vs → ds.all D.cell = true → RdL Z w none ds vs
  | [], _, h, _ => by simpa only [RdL] using h
  | d :: ds, _, h, hc => by
    simp only [RdL] at h ⊢
    obtain ⟨v, r, h1, h2, h3⟩ := h
    simp only [List.all_cons, Bool.and_eq_true] at hc
    exact ⟨v, r, h1, h2.open_ hc.1, h3.open_ hc.2⟩

theorem splice_read {Z : Nat → Prop} {cx : Option Cx} {cs ds : List D} {us vs : List Value} (h : RdL Z w cx cs us) (g : RdL Z w cx ds vs) (off : Nat) :
    RdL Z w cx (splice cs off ds) (us.take off ++ vs ++ us.drop (off + vs.length)) := by
  unfold splice
  rw [g.length]
  exact ((h.take off).append g).append (h.drop _)

theorem length_splice {cs ds : List D} {off : Nat} (h : off + ds.length ≤ cs.length) : (splice cs off ds).length = cs.length := by
  unfold splice
  simp only [List.length_append, List.length_take, List.length_drop]
  omega

/-- The parts of a struct literal. -/
theorem fill_parts (hS : Sat T X Y w0 c s a w) {U : TypeId} {place : Nat → Option (Nat × Nat)} (hpl : ∀ i f n, fieldT P U i = some f → sizeT P f.type = some n → place i = some (f.offset, n)) :
    ∀ {ps : List (Nat × Operand)} {qs : List (Nat × Nat × Opd)}, cParts P U ps = some qs → gus T s (qs.map (·.2.2)) → ∀ {cs : List D} {us : List Value} {φ : Prop} {out : List D}, fillParts (fun x => (x.ev T s).un) qs cs = some (φ, out) → φ →
      RdL (PX X c) w (some c) cs us → ∃ vs, Instr.fill place us.toArray (ps.map fun p => (p.1, a.eval p.2)) = some vs.toArray ∧ RdL (PX X c) w (some c) out vs
  | [], qs, h, _, cs, us, φ, out, hf, _, hr => by
    simp [cParts] at h
    subst h
    simp only [fillParts, Option.some.injEq, Prod.mk.injEq] at hf
    obtain ⟨_, rfl⟩ := hf
    exact ⟨us, rfl, hr⟩
  | (i, x) :: ps, qs, h, hg, cs, us, φ, out, hf, hφ, hr => by
    simp only [cParts] at h
    split at h
    · rename_i f hfi
      split at h
      · rename_i y n l hy hn hl
        simp at h
        subst h
        simp only [List.map_cons, gus] at hg
        simp only [fillParts] at hf
        split at hf
        · rename_i ψ out' hf'
          simp only [Option.some.injEq, Prod.mk.injEq] at hf
          obtain ⟨rfl, rfl⟩ := hf
          obtain ⟨h1, h2, h3, h4⟩ := hφ
          have hd := hS.cells (hS.opdU hy hg.1) h2
          have hlen := hd.length
          have hul := hr.length
          obtain ⟨vs, e1, e2⟩ := fill_parts hS hpl hl hg.2 hf' h4 (splice_read hr hd f.offset)
          refine ⟨vs, ?_, e2⟩
          rw [List.map_cons, fill_cons (hpl i f n hfi hn) (by simpa [h1] using hlen) (by simpa [hul] using h3)]
          rw [← e1]
          congr 2
          simp [hlen, h1]
        · simp at hf
      · simp at h
    · simp at h

theorem mV_read {Z : Nat → Prop} {cx : Option Cx} {d : D} {v : Value} (h : mV d v = true) : Rd Z w cx d v := by
  unfold mV at h
  split at h <;> simp at h <;> simp [Rd, h]
theorem mL_read {Z : Nat → Prop} {cx : Option Cx} : ∀ {ds : List D} {vs : List Value}, mL ds vs = true → RdL Z w cx ds vs
  | [], [], _ => by simp [RdL]
  | [], _ :: _, h => by simp [mL] at h
  | _ :: _, [], h => by simp [mL] at h
  | d :: ds, v :: vs, h => by
    simp only [mL, Bool.and_eq_true] at h
    simp only [RdL]
    exact ⟨v, vs, rfl, mV_read h.1, mL_read h.2⟩
theorem zeroT_spec {U : TypeId} {cs : List D} (h : zeroT P U = some cs) : ∃ i z, P.info? U = some i ∧ i.zero = some z ∧ mL cs z.cells.toList = true := by
  unfold zeroT at h
  split at h
  · rename_i ds z hz hz'
    split at h
    · rename_i hm
      simp at h
      subst h
      cases hi : P.info? U with
      | none => simp [hi] at hz'
      | some i => simp [hi] at hz'; exact ⟨i, z, rfl, hz', hm⟩
    · simp at h
  · simp at h

theorem fields_places : ∀ (fs : List Field), (∀ f ∈ fs, (sizeT P f.type).isSome = true) → ∃ places, fs.mapM (fun f => (P.info? f.type).map fun i => (f.offset, i.size)) = some places ∧ ∀ (i : Nat) f n, fs[i]? = some f → sizeT P f.type = some n → places[i]? = some (f.offset, n)
  | [], _ => ⟨[], by simp, by simp⟩
  | f :: fs, h => by
    obtain ⟨pl, h1, h2⟩ := fields_places fs fun g hg => h g (by simp [hg])
    have hf := h f (by simp)
    unfold sizeT at hf
    cases hi : P.info? f.type with
    | none => simp [hi] at hf
    | some i =>
      refine ⟨(f.offset, i.size) :: pl, by simp [List.mapM_cons, hi, h1], fun j g n hj hn => ?_⟩
      cases j with
      | zero => simp at hj; subst hj; simp [sizeT, hi] at hn; simp [hn]
      | succ j => simpa using h2 j g n (by simpa using hj) hn

theorem snd_build (h : Sat T X Y w0 c s a w) {o : Oper} {U : TypeId} {parts : Array (Nat × Operand)} {fs : Array Field} {zs : List D} {qs : List (Nat × Nat × Opd)} (ho : o.op = .build U parts) (hu : P.underlying U = some (.struct fs)) (hfs : fs.toList.all (fun f => (sizeT P f.type).isSome) = true) (hz : zeroT P U = some zs) (hq : cParts P U parts.toList = some qs)
    (hg : gus T s (qs.map (·.2.2)))
    {φ : Prop} {d : D} (hact : act T (.build zs qs) (fun x => (x.ev T s).un) s.lk = some (φ, .val d)) (hφ : φ) : Yld P X c a w o d := by
  have he : execOp a.eval o = (do pure (.value (← Instr.build U (parts.map fun (i, x) => (i, a.eval x))))) := by simp only [execOp, ho]
  obtain ⟨it, z, hi, hz1, hz2⟩ := zeroT_spec hz
  obtain ⟨places, hp1, hp2⟩ := fields_places (P := P) fs.toList (List.all_eq_true.1 hfs)
  simp only [act] at hact
  split at hact
  · rename_i ψ out hf
    simp only [Option.some.injEq, Prod.mk.injEq, Eff.val.injEq] at hact
    obtain ⟨rfl, rfl⟩ := hact
    obtain ⟨vs, e1, e2⟩ := fill_parts h (P := P) (U := U) (place := fun i => places.toArray[i]?) (fun i f n hf hn => by
      obtain ⟨fs', hu', hf'⟩ := fieldT_spec hf
      rw [hu] at hu'
      cases hu'
      have := hp2 i f n (by simpa using hf') hn
      simpa using this) hq hg hf hφ (mL_read (w := w) hz2)
    refine yld_of_run he (v := .agg vs.toArray) (run_build w U _ _ ?_) (by simp only [Rd]; exact ⟨vs, rfl, e2⟩)
    unfold Program.built
    simp only [hi, hu, hz1, hp1]
    rw [← e1]
    simp [Array.toList_map]
  · simp at hact
end
end Go.Vcg

namespace Go.Vcg
section
variable {P : Program} {T : Tb} {X : Nat → Prop} {Y : Env} {w0 w : World} {c : Cx} {s : St} {a : Act}

/-! ### Slices of slices -/
theorem run_sliceBound {k : IntKind} {n y : Nat} (h : n ≤ y) (code : BoundsCode) : (Instr.sliceBound (.int k n) y code).run P w = .ok n w := by
  have : (0 : Int) ≤ n ∧ (n : Int) ≤ y := by omega
  simp [Instr.sliceBound, asIntOf, this]

theorem run_sliceBounds {len cap l h : Nat} (hl : l ≤ h) (hh : h ≤ len) (hc : len ≤ cap) (lo hi : Option Value) {k k' : IntKind}
    (hlo : lo = none ∧ l = 0 ∨ lo = some (.int k l)) (hhi : hi = none ∧ h = len ∨ hi = some (.int k' h)) : (Instr.sliceBounds true len cap lo hi none).run P w = .ok (l, h, cap) w := by
  rcases hlo with ⟨rfl, rfl⟩ | rfl <;> rcases hhi with ⟨rfl, rfl⟩ | rfl
  · simp [Instr.sliceBounds]
  · simp [Instr.sliceBounds, run_sliceBound (P := P) (w := w) (k := k') (show h ≤ cap by omega)]
  · simp [Instr.sliceBounds, run_sliceBound (P := P) (w := w) (k := k) hl]
  · simp [Instr.sliceBounds, run_sliceBound (P := P) (w := w) (k := k') (show h ≤ cap by omega), run_sliceBound (P := P) (w := w) (k := k) hl]

theorem run_sliceAt' {U e : TypeId} (hu : P.underlying U = some (.slice e)) {n : Nat} (hn : sizeT P e = some n) {b o len cap l h : Nat} (hl : l ≤ h) (hh : h ≤ len) (hc : len ≤ cap) (lo hi : Option Value) {k k' : IntKind}
    (hlo : lo = none ∧ l = 0 ∨ lo = some (.int k l)) (hhi : hi = none ∧ h = len ∨ hi = some (.int k' h)) :
    ∃ o', (Instr.sliceAt U (.slice (some ⟨b, o, none⟩) len cap) lo hi none).run P w = .ok (.slice (some ⟨b, o', none⟩) (h - l) (cap - l)) w ∧ (o' = o + l * n ∨ h = l) := by
  have hsz := run_sizeOf (P := P) hn w
  have hb := run_sliceBounds (P := P) (w := w) hl hh hc lo hi hlo hhi
  have key : (Instr.sliceAt U (.slice (some ⟨b, o, none⟩) len cap) lo hi none).run P w = .ok (.slice (if cap = l then some ⟨b, o, none⟩ else some ⟨b, o + l * n, none⟩) (h - l) (cap - l)) w := by
    simp only [Instr.sliceAt, Sem.run_bind, run_underlying hu, Result.andThen_ok, Instr.slice, hb, hsz, Sem.run_pure, Option.map_some, addr_add]
  rw [key]
  by_cases hcl : cap = l
  · exact ⟨o, by rw [if_pos hcl], .inr (by omega)⟩
  · exact ⟨o + l * n, by rw [if_neg hcl], .inl rfl⟩

theorem fz_slice {Z : Nat → Prop} {cx : Option Cx} {sz : Nat} {es : List (List D)} {v : Value} (h : Rd Z w cx (.fz sz es) v) {U e : TypeId} (hu : P.underlying U = some (.slice e)) (hn : sizeT P e = some sz)
    {l m : Nat} (hl : l ≤ m) (hm : m ≤ es.length) (lo hi : Option Value) {k k' : IntKind} (hlo : lo = none ∧ l = 0 ∨ lo = some (.int k l)) (hhi : hi = none ∧ m = es.length ∨ hi = some (.int k' m)) :
    ∃ v', (Instr.sliceAt U v lo hi none).run P w = .ok v' w ∧ Rd Z w cx (.fz sz ((es.take m).drop l)) v' := by
  simp only [Rd] at h
  rcases h with ⟨⟨o0, rfl⟩, rfl⟩ | ⟨b, off, cap, vs, rfl, hlc, hcm, hX, hc, hE, h1⟩
  · have hm0 : m = 0 := by simpa using hm
    subst hm0
    have hl0 : l = 0 := by omega
    subst hl0
    refine ⟨.slice o0 0 0, ?_, by simp [Rd]⟩
    have hsz := run_sizeOf (P := P) hn w
    have hb := run_sliceBounds (P := P) (w := w) (len := 0) (cap := 0) (l := 0) (h := 0) (by omega) (by omega) (by omega) lo hi hlo (by simpa using hhi)
    simp only [Instr.sliceAt, Sem.run_bind, run_underlying hu, Result.andThen_ok, Instr.slice, hb, hsz, Sem.run_pure]
    simp
  · obtain ⟨o', hr, ho⟩ := run_sliceAt' (P := P) (w := w) hu hn (b := b) (o := off) hl hm hlc lo hi hlo hhi
    refine ⟨_, hr, ?_⟩
    simp only [Rd]
    have hlen : ((es.take m).drop l).length = m - l := by simp; omega
    rcases ho with rfl | rfl
    · refine .inr ⟨b, off + l * sz, cap - l, (vs.drop (l * sz)).take ((m - l) * sz), by rw [hlen], by rw [hlen]; omega, by omega, hX, hc.sub _ _, ?_, fun u hu => h1 u (List.mem_of_mem_drop (List.mem_of_mem_take hu))⟩
      have := (hE.take m).drop l
      have e1 : (vs.take (m * sz)).drop (l * sz) = (vs.drop (l * sz)).take ((m - l) * sz) := by
        rw [List.drop_take, Nat.sub_mul]
      rwa [e1] at this
    · refine .inr ⟨b, o', cap - m, [], by rw [hlen], by rw [hlen]; omega, by omega, hX, ?_, ?_, by simp⟩
      · obtain ⟨arr, V, fr, g1, g2⟩ := hc
        exact ⟨arr, V, fr, g1, by simp⟩
      · have : (es.take m).drop m = [] := by simp
        rw [this]; simp [RdE]

theorem fz_slice3 {Z : Nat → Prop} {cx : Option Cx} {sz : Nat} {es : List (List D)} {v : Value} (h : Rd Z w cx (.fz sz es) v) {U e : TypeId} (hu : P.underlying U = some (.slice e)) (hn : sizeT P e = some sz)
    {l m q : Nat} (hl : l ≤ m) (hm : m ≤ q) (hq : q ≤ es.length) (lo : Option Value) {k k' k'' : IntKind} (hlo : lo = none ∧ l = 0 ∨ lo = some (.int k l)) :
    ∃ v', (Instr.sliceAt U v lo (some (.int k' m)) (some (.int k'' q))).run P w = .ok v' w ∧ Rd Z w cx (.fz sz ((es.take m).drop l)) v' := by
  have hsz := run_sizeOf (P := P) hn w
  have hb : ∀ len cap, q ≤ cap → (Instr.sliceBounds true len cap lo (some (.int k' m)) (some (.int k'' q))).run P w = .ok (l, m, q) w := by
    intro len cap hqc
    rcases hlo with ⟨rfl, rfl⟩ | rfl
    · simp [Instr.sliceBounds, run_sliceBound (P := P) (w := w) (k := k'') hqc, run_sliceBound (P := P) (w := w) (k := k') hm]
    · simp [Instr.sliceBounds, run_sliceBound (P := P) (w := w) (k := k'') hqc, run_sliceBound (P := P) (w := w) (k := k') hm, run_sliceBound (P := P) (w := w) (k := k) hl]
  simp only [Rd] at h
  rcases h with ⟨⟨o0, rfl⟩, rfl⟩ | ⟨b, off, cap, vs, rfl, hlc, hcm, hX, hc, hE, h1⟩
  · have hq0 : q = 0 := by simpa using hq
    subst hq0
    have hm0 : m = 0 := by omega
    subst hm0
    have hl0 : l = 0 := by omega
    subst hl0
    refine ⟨.slice o0 0 0, ?_, by simp [Rd]⟩
    simp only [Instr.sliceAt, Sem.run_bind, run_underlying hu, Result.andThen_ok, Instr.slice, hb 0 0 (by omega), hsz, Sem.run_pure]
    simp
  · have key : (Instr.sliceAt U (.slice (some ⟨b, off, none⟩) es.length cap) lo (some (.int k' m)) (some (.int k'' q))).run P w = .ok (.slice (if q = l then some ⟨b, off, none⟩ else some ⟨b, off + l * sz, none⟩) (m - l) (q - l)) w := by
      simp only [Instr.sliceAt, Sem.run_bind, run_underlying hu, Result.andThen_ok, Instr.slice, hb es.length cap (by omega), hsz, Sem.run_pure, Option.map_some, addr_add]
    refine ⟨_, key, ?_⟩
    simp only [Rd]
    have hlen : ((es.take m).drop l).length = m - l := by simp; omega
    by_cases hql : q = l
    · have hml : m = l := by omega
      subst hml
      refine .inr ⟨b, off, q - m, [], by rw [if_pos hql, hlen], by rw [hlen]; omega, by omega, hX, ?_, ?_, by simp⟩
      · obtain ⟨arr, V, fr, g1, g2⟩ := hc
        exact ⟨arr, V, fr, g1, by simp⟩
      · have : (es.take m).drop m = [] := by simp
        rw [this]; simp [RdE]
    · refine .inr ⟨b, off + l * sz, q - l, (vs.drop (l * sz)).take ((m - l) * sz), by rw [if_neg hql, hlen], by rw [hlen]; omega, by omega, hX, hc.sub _ _, ?_, fun u hu => h1 u (List.mem_of_mem_drop (List.mem_of_mem_take hu))⟩
      have := (hE.take m).drop l
      have e1 : (vs.take (m * sz)).drop (l * sz) = (vs.drop (l * sz)).take ((m - l) * sz) := by
        rw [List.drop_take, Nat.sub_mul]
      rwa [e1] at this

theorem snd_slc3 (h : Sat T X Y w0 c s a w) {o : Oper} {U e : TypeId} {x hi mx : Operand} {lo : Option Operand} {y m q : Opd} {l : Option Opd} {n : Nat} (ho : o.op = .slice U x lo (some hi) (some mx)) (hu : P.underlying U = some (.slice e)) (hn : sizeT P e = some n) (hx : cOpd P U x = some y)
    (hlo : lo.map (cOpd P 0) = l.map some) (hhi : cOpd P 0 hi = some m) (hmx : cOpd P 0 mx = some q) (hg : gus T s (y :: m :: q :: l.toList))
    {φ : Prop} {d : D} (hact : act T (.slc3 n y l m q) (fun x => (x.ev T s).un) s.lk = some (φ, .val d)) (hφ : φ) : Yld P X c a w o d := by
  simp only [gus] at hg
  obtain ⟨hg1, hg2, hg3, hg4⟩ := hg
  have hr := h.opdU hx hg1
  have hr2 := h.opdU hhi hg2
  have hr3 := h.opdU hmx hg3
  have he : execOp a.eval o = (do pure (.value (← Instr.sliceAt U (a.eval x) (lo.map a.eval) (some (a.eval hi)) (some (a.eval mx))))) := by simp only [execOp, ho]; rfl
  simp only [act] at hact
  split at hact
  · rename_i sz es k1 h1 k2 m1 hk hl hh hm
    obtain rfl : l = none := by cases l <;> simp at hl <;> rfl
    obtain rfl : lo = none := by cases lo <;> simp at hlo <;> rfl
    simp only [Option.some.injEq, Prod.mk.injEq, Eff.val.injEq] at hact
    obtain ⟨rfl, rfl⟩ := hact
    obtain ⟨rfl, q1, q2, q3⟩ := hφ
    rw [hk] at hr; rw [hh] at hr2; rw [hm] at hr3
    simp only [Rd] at hr2 hr3
    obtain ⟨v', g1, g2⟩ := fz_slice3 hr hu hn (l := 0) (m := h1.toNat) (q := m1.toNat) (by omega) (by omega) (by omega) none (k := .i64) (k' := k1) (k'' := k2) (.inl ⟨rfl, rfl⟩)
    refine yld_of_run he ?_ (by simpa using g2)
    rw [hr2, hr3]
    have e1 : ((h1.toNat : Nat) : Int) = h1 := by omega
    have e2 : ((m1.toNat : Nat) : Int) = m1 := by omega
    rw [e1, e2] at g1
    exact g1
  · rename_i sz es k0 l1 k1 h1 k2 m1 hk hl hh hm
    cases l with
    | none => simp at hl
    | some l =>
      cases lo with
      | none => simp at hlo
      | some lo =>
        simp at hl hlo
        simp only [Option.toList_some, gus] at hg4
        have hrl := h.opdU hlo hg4.1
        rw [hl] at hrl
        simp only [Rd] at hrl
        simp only [Option.some.injEq, Prod.mk.injEq, Eff.val.injEq] at hact
        obtain ⟨rfl, rfl⟩ := hact
        obtain ⟨rfl, q1, q2, q3, q4⟩ := hφ
        rw [hk] at hr; rw [hh] at hr2; rw [hm] at hr3
        simp only [Rd] at hr2 hr3
        obtain ⟨v', g1, g2⟩ := fz_slice3 hr hu hn (l := l1.toNat) (m := h1.toNat) (q := m1.toNat) (by omega) (by omega) (by omega) (some (a.eval lo)) (k := k0) (k' := k1) (k'' := k2) (.inr (by rw [hrl]; congr 2; omega))
        refine yld_of_run he ?_ g2
        rw [hr2, hr3]
        have e1 : ((h1.toNat : Nat) : Int) = h1 := by omega
        have e2 : ((m1.toNat : Nat) : Int) = m1 := by omega
        rw [e1, e2] at g1
        exact g1
  · rename_i kk0 sz b0 n0 cp k0 l1 k1 h1 k2 m1 hk hl hh hm
    cases l with
    | none => simp at hl
    | some l =>
      cases lo with
      | none => simp at hlo
      | some lo =>
        simp at hl hlo
        simp only [Option.toList_some, gus] at hg4
        have hrl := h.opdU hlo hg4.1
        rw [hl] at hrl
        simp only [Rd] at hrl
        simp only [Option.some.injEq, Prod.mk.injEq, Eff.val.injEq] at hact
        obtain ⟨rfl, rfl⟩ := hact
        obtain ⟨rfl, q1, q2, q3, q4⟩ := hφ
        rw [hk] at hr; rw [hh] at hr2; rw [hm] at hr3
        simp only [Rd] at hr hr2 hr3
        obtain ⟨_, b, o', _, hv, _⟩ := hr
        obtain ⟨l', rfl⟩ := Int.eq_ofNat_of_zero_le q1
        obtain ⟨h', rfl⟩ := Int.eq_ofNat_of_zero_le (Int.le_trans q1 q2)
        obtain ⟨m', rfl⟩ := Int.eq_ofNat_of_zero_le (Int.le_trans (Int.le_trans q1 q2) q3)
        have hsz := run_sizeOf (P := P) hn w
        have hb : (Instr.sliceBounds true n0 cp (some (.int k0 l')) (some (.int k1 h')) (some (.int k2 m'))).run P w = .ok (l', h', m') w := by
          simp [Instr.sliceBounds, run_sliceBound (P := P) (w := w) (k := k2) (show m' ≤ cp by omega), run_sliceBound (P := P) (w := w) (k := k1) (show h' ≤ m' by omega), run_sliceBound (P := P) (w := w) (k := k0) (show l' ≤ h' by omega)]
        have hrun : ∃ v', (Instr.sliceAt U (a.eval x) ((some lo).map a.eval) (some (a.eval hi)) (some (a.eval mx))).run P w = .ok v' w := by
          rw [hv, hr2, hr3]
          simp only [Option.map_some, hrl, Instr.sliceAt, Sem.run_bind, run_underlying hu, Result.andThen_ok, Instr.slice, hb, hsz, Sem.run_pure]
          exact ⟨_, rfl⟩
        obtain ⟨v', hrun⟩ := hrun
        exact yld_of_run he hrun (by simp only [Rd])
  · simp at hact

/-- Bytes as a string. -/
theorem bytesOf_read {Z : Nat → Prop} : ∀ {es : List (List D)} {l : List UInt8} {vs : List Value}, bytesOf es = some l → RdE Z w 1 es vs → ∃ ns : List Int, vs = ns.map (Value.int .u8) ∧ l = ns.map (fun n => UInt8.ofNat n.toNat)
  | [], l, vs, h, hr => by
    simp [bytesOf] at h
    simp only [RdE] at hr
    subst h hr
    exact ⟨[], rfl, rfl⟩
  | e :: es, l, vs, h, hr => by
    unfold bytesOf at h
    split at h
    · rename_i h0; cases h0
    · rename_i n r h0
      cases h0
      simp only [Option.map_eq_some_iff] at h
      obtain ⟨l', h1, rfl⟩ := h
      simp only [RdE] at hr
      obtain ⟨v1, v2, rfl, h2, h3, h4⟩ := hr
      obtain ⟨ns, rfl, rfl⟩ := bytesOf_read h1 h4
      simp only [RdL, Rd] at h3
      obtain ⟨v, r', rfl, rfl, rfl⟩ := h3
      exact ⟨n :: ns, rfl, rfl⟩
    · cases h

theorem run_bts {U V e : TypeId} (hs : P.underlying U = some (.slice e)) (he : P.underlying e = some (.int .u8)) (hd : P.underlying V = some .string) {b off cap : Nat} {ns : List Int} (hc : CellsAt w b off (ns.map (Value.int .u8))) :
    (convert U V (.slice (some ⟨b, off, none⟩) ns.length cap)).run P w = .ok (.string ⟨(ns.map (fun n => UInt8.ofNat n.toNat)).toArray⟩) w := by
  rw [run_convert_bytes_string w U V e _ _ _ hs he hd]
  have hl := run_loadCells_list (P := P) w ⟨b, off, none⟩ (ns.map (Value.int .u8)) (fun j v hj => by rw [addr_add]; exact hc.cell hj)
  simp only [List.length_map] at hl
  rw [run_bytesToString w _ ns.length cap ns hl]
  have key : ∀ (ns : List Int) (r : ByteArray), ns.foldl (fun r n => r.push (UInt8.ofNat n.toNat)) r = ⟨r.data ++ (ns.map (fun n => UInt8.ofNat n.toNat)).toArray⟩ := by
    intro ns
    induction ns with
    | nil => intro r; simp
    | cons n ns ih => intro r; simp only [List.foldl_cons, ih]; simp [ByteArray.push]
  rw [key]
  simp [ByteArray.empty, ByteArray.emptyWithCapacity]
  rfl

theorem run_bts_nil {U V e : TypeId} (hs : P.underlying U = some (.slice e)) (he : P.underlying e = some (.int .u8)) (hd : P.underlying V = some .string) (o0 : Option Addr) :
    (convert U V (.slice o0 0 0)).run P w = .ok (.string ⟨#[]⟩) w := by
  rw [run_convert_bytes_string w U V e _ _ _ hs he hd]
  cases o0 with
  | none =>
    simp [Conv.bytesToString, ByteArray.empty, ByteArray.emptyWithCapacity]
    rfl
  | some ad =>
    have hl := run_loadCells_list (P := P) w ad [] (by simp)
    rw [run_bytesToString w _ 0 0 [] (by simpa using hl)]
    simp [ByteArray.empty, ByteArray.emptyWithCapacity]
    rfl

theorem snd_bts (h : Sat T X Y w0 c s a w) {o : Oper} {U V e : TypeId} {x : Operand} {y : Opd} (ho : o.op = .convert U V x) (hs : P.underlying U = some (.slice e)) (hb : P.underlying e = some (.int .u8)) (hd : P.underlying V = some .string) (hx : cOpd P U x = some y) (hg : (y.ev T s).gu = true)
    {φ : Prop} {d : D} (hact : act T (.bts y) (fun x => (x.ev T s).un) s.lk = some (φ, .val d)) (hφ : φ) : Yld P X c a w o d := by
  have hr := h.opdU hx hg
  have he : execOp a.eval o = (do pure (.value (← convert U V (a.eval x)))) := by simp only [execOp, ho]
  simp only [act] at hact
  split at hact
  · rename_i sz es hk
    simp only [Option.map_eq_some_iff, Prod.mk.injEq, Eff.val.injEq] at hact
    obtain ⟨l, hl, rfl, rfl⟩ := hact
    subst hφ
    rw [hk] at hr
    simp only [Rd] at hr
    rcases hr with ⟨⟨o0, hv⟩, rfl⟩ | ⟨b, off, cap, vs, hv, _, _, _, hc, hE, _⟩
    · simp [bytesOf] at hl
      subst hl
      exact yld_of_run he (by rw [hv]; exact run_bts_nil hs hb hd o0) (by simp only [Rd])
    · obtain ⟨ns, rfl, rfl⟩ := bytesOf_read hl hE
      have hlen := hE.length
      simp at hlen
      refine yld_of_run he (by rw [hv, ← hlen]; exact run_bts hs hb hd hc) (by simp only [Rd])
  · rename_i hk
    simp only [Option.some.injEq, Prod.mk.injEq, Eff.val.injEq] at hact
    obtain ⟨_, rfl⟩ := hact
    rw [hk] at hr
    simp only [Rd] at hr
    exact yld_of_run he (by rw [hr]; exact run_bts_nil hs hb hd none) (by simp only [Rd])
  · rename_i k hk
    split at hact
    · rename_i sz es hlk
      simp only [Option.map_eq_some_iff, Prod.mk.injEq, Eff.val.injEq] at hact
      obtain ⟨l, hl, rfl, rfl⟩ := hact
      subst hφ
      rw [hk] at hr
      simp only [Rd] at hr
      obtain ⟨vs, U', e1, e2, e3⟩ := h.ob k _ hlk
      obtain ⟨ns, rfl, rfl⟩ := bytesOf_read hl e2
      rcases e1.2 with ⟨⟨o0, g1⟩, g2, g3⟩ | ⟨g, cap, cur, g1, g2, g3, g4, g5, g6, g7⟩
      · have h0 : ns = [] := by
          have := e1.1
          rw [g2] at this
          simpa using this
        subst h0
        exact yld_of_run he (by rw [hr.2, g1]; exact run_bts_nil hs hb hd o0) (by simp only [Rd, List.map_nil])
      · have hlen := e2.length
        simp at hlen
        refine yld_of_run he (by
          rw [hr.2, g1, ← hlen]
          exact run_bts hs hb hd ⟨cur, U', (0, 0), g3, fun j v hv => by
            rw [← g7, List.getElem?_take] at hv
            split at hv
            · simpa using hv
            · simp at hv⟩) (by simp only [Rd])
    · cases hact
  · cases hact

theorem run_sliceAt2 {U e : TypeId} (hu : P.underlying U = some (.slice e)) {n : Nat} (hn : sizeT P e = some n) {b o len cap l h : Nat} (hl : l ≤ h) (hh : h ≤ cap) (lo hi : Option Value) {k k' : IntKind}
    (hlo : lo = none ∧ l = 0 ∨ lo = some (.int k l)) (hhi : hi = none ∧ h = len ∨ hi = some (.int k' h)) :
    (Instr.sliceAt U (.slice (some ⟨b, o, none⟩) len cap) lo hi none).run P w = .ok (.slice (some ⟨b, if cap = l then o else o + l * n, none⟩) (h - l) (cap - l)) w := by
  have hsz := run_sizeOf (P := P) hn w
  have hb : (Instr.sliceBounds true len cap lo hi none).run P w = .ok (l, h, cap) w := by
    rcases hlo with ⟨rfl, rfl⟩ | rfl <;> rcases hhi with ⟨rfl, rfl⟩ | rfl
    · simp [Instr.sliceBounds]
    · simp [Instr.sliceBounds, run_sliceBound (P := P) (w := w) (k := k') hh]
    · simp [Instr.sliceBounds, run_sliceBound (P := P) (w := w) (k := k) hl]
    · simp [Instr.sliceBounds, run_sliceBound (P := P) (w := w) (k := k') hh, run_sliceBound (P := P) (w := w) (k := k) hl]
  simp only [Instr.sliceAt, Sem.run_bind, run_underlying hu, Result.andThen_ok, Instr.slice, hb, hsz, Sem.run_pure, Option.map_some, addr_add]
  by_cases hcl : cap = l
  · rw [if_pos hcl, if_pos hcl]
  · rw [if_neg hcl, if_neg hcl]

theorem run_sidx {U : TypeId} (hu : P.underlying U = some .string) {l : List UInt8} {k : IntKind} {i : Int} (h0 : 0 ≤ i) (h1 : i < l.length) :
    (Instr.index U (.string ⟨l.toArray⟩) (.int k i)).run P w = .ok (.int .u8 ((l.getD i.toNat 0).toNat : Nat)) w := by
  have hi : i.toNat < l.length := by omega
  have hg : (⟨l.toArray⟩ : ByteArray)[i.toNat]? = some (l[i.toNat]) := by
    rw [getElem?_pos (h := (by simpa [ByteArray.size] using hi))]
    rfl
  simp only [Instr.index, asIntOf, Sem.run_bind, Sem.run_pure, run_underlying hu, Result.andThen_ok, if_pos h0, hg]
  simp [List.getD, hi]

theorem snd_sidx (h : Sat T X Y w0 c s a w) {o : Oper} {U : TypeId} {x i : Operand} {y j : Opd} (hu : P.underlying U = some .string) (ho : o.op = .index U x i)
    (hx : cOpd P U x = some y) (hi : cOpd P 0 i = some j) (hg : (y.ev T s).gu = true) (hg' : (j.ev T s).gu = true)
    {φ : Prop} {d : D} (hact : act T (.sidx y j) (fun x => (x.ev T s).un) s.lk = some (φ, .val d)) (hφ : φ) : Yld P X c a w o d := by
  have hr := h.opdU hx hg
  have hri := h.opdU hi hg'
  have he : execOp a.eval o = (do pure (.value (← Instr.index U (a.eval x) (a.eval i)))) := by simp only [execOp, ho]
  simp only [act] at hact
  split at hact
  · rename_i l k n hk hk'
    simp only [Option.some.injEq, Prod.mk.injEq, Eff.val.injEq] at hact
    obtain ⟨rfl, rfl⟩ := hact
    rw [hk] at hr
    rw [hk'] at hri
    simp only [Rd] at hr hri
    exact yld_of_run he (by rw [hr, hri]; exact run_sidx hu hφ.1 hφ.2) (by simp only [Rd])
  · cases hact

theorem run_sslc {U : TypeId} (hu : P.underlying U = some .string) {s : List UInt8} {l h : Nat} (hl : l ≤ h) (hh : h ≤ s.length) (lo hi : Option Value) {k k' : IntKind}
    (hlo : lo = none ∧ l = 0 ∨ lo = some (.int k l)) (hhi : hi = none ∧ h = s.length ∨ hi = some (.int k' h)) :
    (Instr.sliceAt U (.string ⟨s.toArray⟩) lo hi none).run P w = .ok (.string ⟨((s.take h).drop l).toArray⟩) w := by
  have hz : (⟨s.toArray⟩ : ByteArray).size = s.length := by simp [ByteArray.size]
  have hb : (Instr.sliceBounds false s.length s.length lo hi none).run P w = .ok (l, h, s.length) w := by
    rcases hlo with ⟨rfl, rfl⟩ | rfl <;> rcases hhi with ⟨rfl, rfl⟩ | rfl
    · simp [Instr.sliceBounds]
    · simp [Instr.sliceBounds, run_sliceBound (P := P) (w := w) (k := k') hh]
    · simp [Instr.sliceBounds, run_sliceBound (P := P) (w := w) (k := k) hl]
    · simp [Instr.sliceBounds, run_sliceBound (P := P) (w := w) (k := k') hh, run_sliceBound (P := P) (w := w) (k := k) hl]
  have hx : (⟨s.toArray⟩ : ByteArray).extract l h = ⟨((s.take h).drop l).toArray⟩ := by
    apply ByteArray.ext
    simp [List.extract_eq_take_drop, List.drop_take]
  simp [Instr.sliceAt, Sem.run_bind, run_underlying hu, Result.andThen_ok, Instr.slice, hz, hb, hx]

theorem snd_sslc (h : Sat T X Y w0 c s a w) {o : Oper} {U : TypeId} {x : Operand} {lo hi : Option Operand} {y : Opd} {l m : Option Opd} (ho : o.op = .slice U x lo hi none) (hu : P.underlying U = some .string) (hx : cOpd P U x = some y)
    (hlo : lo.map (cOpd P 0) = l.map some) (hhi : hi.map (cOpd P 0) = m.map some) (hg : gus T s (y :: (l.toList ++ m.toList)))
    {φ : Prop} {d : D} (hact : act T (.sslc y l m) (fun x => (x.ev T s).un) s.lk = some (φ, .val d)) (hφ : φ) : Yld P X c a w o d := by
  have hgy : (y.ev T s).gu = true := by simp only [gus] at hg; exact hg.1
  have hr := h.opdU hx hgy
  have he : execOp a.eval o = (do pure (.value (← Instr.sliceAt U (a.eval x) (lo.map a.eval) (hi.map a.eval) none))) := by simp only [execOp, ho]; rfl
  have hL : ∀ (kk : IntKind) (q : Int), (l.map fun x => (x.ev T s).un).getD (.int .i64 0) = .int kk q → 0 ≤ q → (lo.map a.eval) = none ∧ q.toNat = 0 ∨ (lo.map a.eval) = some (.int kk (q.toNat : Nat)) := by
    intro kk q hq h0
    cases l with
    | none =>
      obtain rfl : lo = none := by cases lo <;> simp at hlo <;> rfl
      simp at hq
      exact .inl ⟨rfl, by rw [← hq.2]; rfl⟩
    | some l =>
      cases lo with
      | none => simp at hlo
      | some lo =>
        simp at hlo hq
        simp only [gus, Option.toList_some, List.cons_append] at hg
        have hrl := h.opdU hlo hg.2.1
        rw [hq] at hrl
        simp only [Rd] at hrl
        exact .inr (by simp only [Option.map_some, hrl]; congr 2; omega)
  simp only [act] at hact
  split at hact
  · rename_i b kk q hk hl hm
    obtain rfl : m = none := by cases m <;> simp at hm <;> rfl
    obtain rfl : hi = none := by cases hi <;> simp at hhi <;> rfl
    simp only [Option.some.injEq, Prod.mk.injEq, Eff.val.injEq] at hact
    obtain ⟨rfl, rfl⟩ := hact
    rw [hk] at hr
    simp only [Rd] at hr
    refine yld_of_run he (by rw [hr]; exact run_sslc hu (l := q.toNat) (h := b.length) (by omega) (Nat.le_refl _) _ none (k' := .i64) (hL _ _ hl hφ.1) (.inl ⟨rfl, rfl⟩)) (by simp only [Rd, List.take_length])
  · rename_i b kk q kk' r hk hl hm
    cases m with
    | none => simp at hm
    | some m =>
      cases hi with
      | none => simp at hhi
      | some hi =>
        simp at hm hhi
        have hgm : (m.ev T s).gu = true := by
          cases l with
          | none => simp only [gus, Option.toList_none, Option.toList_some, List.nil_append] at hg; exact hg.2.1
          | some l => simp only [gus, Option.toList_some, List.cons_append, List.nil_append] at hg; exact hg.2.2.1
        have hrh := h.opdU hhi hgm
        rw [hm] at hrh
        simp only [Rd] at hrh
        simp only [Option.some.injEq, Prod.mk.injEq, Eff.val.injEq] at hact
        obtain ⟨rfl, rfl⟩ := hact
        rw [hk] at hr
        simp only [Rd] at hr
        refine yld_of_run he (by rw [hr]; exact run_sslc hu (l := q.toNat) (h := r.toNat) (by omega) (by omega) _ _ (k' := kk') (hL _ _ hl hφ.1) (.inr (by simp only [Option.map_some, hrh]; congr 2; omega))) (by simp only [Rd])
  · cases hact

theorem vw_slice {Z : Nat → Prop} {cx : Cx} {kk sz b0 m0 cp : Nat} {v : Value} (h : Rd Z w (some cx) (.vw kk sz b0 m0 cp) v) {U e : TypeId} (hu : P.underlying U = some (.slice e)) (hn : sizeT P e = some sz)
    {l m : Nat} (hl : l ≤ m) (hm : m ≤ cp) (lo hi : Option Value) {k k' : IntKind} (hlo : lo = none ∧ l = 0 ∨ lo = some (.int k l)) (hhi : hi = none ∧ m = m0 ∨ hi = some (.int k' m)) :
    ∃ v', (Instr.sliceAt U v lo hi none).run P w = .ok v' w ∧ Rd Z w (some cx) (.vw kk sz (b0 + l) (m - l) (cp - l)) v' := by
  simp only [Rd] at h
  obtain ⟨hlv, b, o, hb, rfl, ho⟩ := h
  refine ⟨_, run_sliceAt2 hu hn hl hm lo hi hlo hhi, ?_⟩
  simp only [Rd]
  refine ⟨hlv, b, _, hb, rfl, fun hp => ?_⟩
  rw [if_neg (by omega), ho (by omega), Nat.add_mul]

theorem snd_slc (h : Sat T X Y w0 c s a w) {o : Oper} {U e : TypeId} {x : Operand} {lo hi : Option Operand} {y : Opd} {l m : Option Opd} {n : Nat} (ho : o.op = .slice U x lo hi none) (hu : P.underlying U = some (.slice e)) (hn : sizeT P e = some n) (hx : cOpd P U x = some y)
    (hlo : lo.map (cOpd P 0) = l.map some) (hhi : hi.map (cOpd P 0) = m.map some) (hg : gus T s (y :: (l.toList ++ m.toList)))
    {φ : Prop} {d : D} (hact : act T (.slc n y l m) (fun x => (x.ev T s).un) s.lk = some (φ, .val d)) (hφ : φ) : Yld P X c a w o d := by
  have hgy : (y.ev T s).gu = true := by simp only [gus] at hg; exact hg.1
  have hr := h.opdU hx hgy
  have he : execOp a.eval o = (do pure (.value (← Instr.sliceAt U (a.eval x) (lo.map a.eval) (hi.map a.eval) none))) := by simp only [execOp, ho]; rfl
  simp only [act] at hact
  split at hact
  · rename_i sz es hk hl hm
    obtain rfl : l = none := by cases l <;> simp at hl <;> rfl
    obtain rfl : m = none := by cases m <;> simp at hm <;> rfl
    obtain rfl : lo = none := by cases lo <;> simp at hlo <;> rfl
    obtain rfl : hi = none := by cases hi <;> simp at hhi <;> rfl
    simp only [Option.some.injEq, Prod.mk.injEq, Eff.val.injEq] at hact
    obtain ⟨rfl, rfl⟩ := hact
    subst hφ
    rw [hk] at hr
    obtain ⟨v', h1, h2⟩ := fz_slice hr hu hn (l := 0) (m := es.length) (by omega) (Nat.le_refl _) none none (k := .i64) (k' := .i64) (.inl ⟨rfl, rfl⟩) (.inl ⟨rfl, rfl⟩)
    exact yld_of_run he h1 (by simpa using h2)
  · rename_i sz es kk q hk hl hm
    obtain rfl : m = none := by cases m <;> simp at hm <;> rfl
    obtain rfl : hi = none := by cases hi <;> simp at hhi <;> rfl
    cases l with
    | none => simp at hl
    | some l =>
      cases lo with
      | none => simp at hlo
      | some lo =>
        simp at hl hlo
        simp only [gus, Option.toList_some, List.cons_append] at hg
        have hrl := h.opdU hlo hg.2.1
        rw [hl] at hrl
        simp only [Rd] at hrl
        simp only [Option.some.injEq, Prod.mk.injEq, Eff.val.injEq] at hact
        obtain ⟨rfl, rfl⟩ := hact
        obtain ⟨rfl, h0, h1⟩ := hφ
        rw [hk] at hr
        obtain ⟨v', h1, h2⟩ := fz_slice hr hu hn (l := q.toNat) (m := es.length) (by omega) (Nat.le_refl _) (some (a.eval lo)) none (k := kk) (k' := .i64) (.inr (by rw [hrl]; congr 2; omega)) (.inl ⟨rfl, rfl⟩)
        exact yld_of_run he h1 (by simpa using h2)
  · rename_i sz es kk q hk hl hm
    obtain rfl : l = none := by cases l <;> simp at hl <;> rfl
    obtain rfl : lo = none := by cases lo <;> simp at hlo <;> rfl
    cases m with
    | none => simp at hm
    | some m =>
      cases hi with
      | none => simp at hhi
      | some hi =>
        simp at hm hhi
        simp only [gus, Option.toList_some, Option.toList_none, List.nil_append] at hg
        have hrl := h.opdU hhi hg.2.1
        rw [hm] at hrl
        simp only [Rd] at hrl
        simp only [Option.some.injEq, Prod.mk.injEq, Eff.val.injEq] at hact
        obtain ⟨rfl, rfl⟩ := hact
        obtain ⟨rfl, h0, h1⟩ := hφ
        rw [hk] at hr
        obtain ⟨v', h1, h2⟩ := fz_slice hr hu hn (l := 0) (m := q.toNat) (by omega) (by omega) none (some (a.eval hi)) (k := .i64) (k' := kk) (.inl ⟨rfl, rfl⟩) (.inr (by rw [hrl]; congr 2; omega))
        exact yld_of_run he h1 (by simpa using h2)
  · rename_i sz es kk q kk' q' hk hl hm
    cases l with
    | none => simp at hl
    | some l =>
      cases lo with
      | none => simp at hlo
      | some lo =>
        cases m with
        | none => simp at hm
        | some m =>
          cases hi with
          | none => simp at hhi
          | some hi =>
            simp at hl hlo hm hhi
            simp only [gus, Option.toList_some, List.cons_append, List.nil_append] at hg
            have hrl := h.opdU hlo hg.2.1
            have hrm := h.opdU hhi hg.2.2.1
            rw [hl] at hrl
            rw [hm] at hrm
            simp only [Rd] at hrl hrm
            simp only [Option.some.injEq, Prod.mk.injEq, Eff.val.injEq] at hact
            obtain ⟨rfl, rfl⟩ := hact
            obtain ⟨rfl, h0, h1, h2⟩ := hφ
            rw [hk] at hr
            obtain ⟨v', h1, h2⟩ := fz_slice hr hu hn (l := q.toNat) (m := q'.toNat) (by omega) (by omega) (some (a.eval lo)) (some (a.eval hi)) (k := kk) (k' := kk') (.inr (by rw [hrl]; congr 2; omega)) (.inr (by rw [hrm]; congr 2; omega))
            exact yld_of_run he h1 h2
  · rename_i sz kk hk hl hm
    obtain rfl : l = none := by cases l <;> simp at hl <;> rfl
    obtain rfl : lo = none := by cases lo <;> simp at hlo <;> rfl
    cases m with
    | none => simp at hm
    | some m =>
      cases hi with
      | none => simp at hhi
      | some hi =>
        simp at hm hhi
        simp only [gus, Option.toList_some, Option.toList_none, List.nil_append] at hg
        have hrl := h.opdU hhi hg.2.1
        rw [hm] at hrl
        simp only [Rd] at hrl
        simp only [Option.some.injEq, Prod.mk.injEq, Eff.val.injEq] at hact
        obtain ⟨rfl, rfl⟩ := hact
        subst hφ
        rw [hk] at hr
        simp only [Rd] at hr
        refine yld_of_run he (v := .slice none 0 0) ?_ (by simp only [Rd])
        have hsz := run_sizeOf (P := P) hn w
        have hb := run_sliceBounds (P := P) (w := w) (len := 0) (cap := 0) (l := 0) (h := 0) (by omega) (by omega) (by omega) none (some (.int kk 0)) (k := .i64) (k' := kk) (.inl ⟨rfl, rfl⟩) (.inr rfl)
        rw [hr]
        simp only [Option.map_none, Option.map_some, hrl, Instr.sliceAt, Sem.run_bind, run_underlying hu, Result.andThen_ok, Instr.slice, hb, hsz, Sem.run_pure]
        simp
  · rename_i k0 sz b0 m0 cp kk q hk hl hm
    obtain rfl : l = none := by cases l <;> simp at hl <;> rfl
    obtain rfl : lo = none := by cases lo <;> simp at hlo <;> rfl
    cases m with
    | none => simp at hm
    | some m =>
      cases hi with
      | none => simp at hhi
      | some hi =>
        simp at hm hhi
        simp only [gus, Option.toList_some, Option.toList_none, List.nil_append] at hg
        have hrl := h.opdU hhi hg.2.1
        rw [hm] at hrl
        simp only [Rd] at hrl
        simp only [Option.some.injEq, Prod.mk.injEq, Eff.val.injEq] at hact
        obtain ⟨rfl, rfl⟩ := hact
        obtain ⟨rfl, h0, h1⟩ := hφ
        rw [hk] at hr
        obtain ⟨v', h1, h2⟩ := vw_slice hr hu hn (l := 0) (m := q.toNat) (by omega) (by omega) none (some (a.eval hi)) (k := .i64) (k' := kk) (.inl ⟨rfl, rfl⟩) (.inr (by rw [hrl]; congr 2; omega))
        exact yld_of_run he h1 (by simpa using h2)
  · rename_i k0 sz b0 m0 cp kk q hk hl hm
    obtain rfl : m = none := by cases m <;> simp at hm <;> rfl
    obtain rfl : hi = none := by cases hi <;> simp at hhi <;> rfl
    cases l with
    | none => simp at hl
    | some l =>
      cases lo with
      | none => simp at hlo
      | some lo =>
        simp at hl hlo
        simp only [gus, Option.toList_some, List.cons_append] at hg
        have hrl := h.opdU hlo hg.2.1
        rw [hl] at hrl
        simp only [Rd] at hrl
        simp only [Option.some.injEq, Prod.mk.injEq, Eff.val.injEq] at hact
        obtain ⟨rfl, rfl⟩ := hact
        obtain ⟨rfl, h0, h1, h2⟩ := hφ
        rw [hk] at hr
        obtain ⟨v', h1, h2⟩ := vw_slice hr hu hn (l := q.toNat) (m := m0) (by omega) (by omega) (some (a.eval lo)) none (k := kk) (k' := .i64) (.inr (by rw [hrl]; congr 2; omega)) (.inl ⟨rfl, rfl⟩)
        exact yld_of_run he h1 h2
  · rename_i k0 sz b0 m0 cp kk q kk' q' hk hl hm
    cases l with
    | none => simp at hl
    | some l =>
      cases lo with
      | none => simp at hlo
      | some lo =>
        cases m with
        | none => simp at hm
        | some m =>
          cases hi with
          | none => simp at hhi
          | some hi =>
            simp at hl hlo hm hhi
            simp only [gus, Option.toList_some, List.cons_append, List.nil_append] at hg
            have hrl := h.opdU hlo hg.2.1
            have hrm := h.opdU hhi hg.2.2.1
            rw [hl] at hrl
            rw [hm] at hrm
            simp only [Rd] at hrl hrm
            simp only [Option.some.injEq, Prod.mk.injEq, Eff.val.injEq] at hact
            obtain ⟨rfl, rfl⟩ := hact
            obtain ⟨rfl, h0, h1, h2⟩ := hφ
            rw [hk] at hr
            obtain ⟨v', h1, h2⟩ := vw_slice hr hu hn (l := q.toNat) (m := q'.toNat) (by omega) (by omega) (some (a.eval lo)) (some (a.eval hi)) (k := kk) (k' := kk') (.inr (by rw [hrl]; congr 2; omega)) (.inr (by rw [hrm]; congr 2; omega))
            exact yld_of_run he h1 h2
  · rename_i kk kd q hk hl hm
    obtain rfl : m = none := by cases m <;> simp at hm <;> rfl
    obtain rfl : hi = none := by cases hi <;> simp at hhi <;> rfl
    cases l with
    | none => simp at hl
    | some l =>
      cases lo with
      | none => simp at hlo
      | some lo =>
        simp at hl hlo
        simp only [gus, Option.toList_some, List.cons_append] at hg
        have hrl := h.opdU hlo hg.2.1
        rw [hl] at hrl
        simp only [Rd] at hrl
        split at hact
        · rename_i sz es hlk
          simp only [Option.some.injEq, Prod.mk.injEq, Eff.val.injEq] at hact
          obtain ⟨rfl, rfl⟩ := hact
          obtain ⟨rfl, h0, h1⟩ := hφ
          rw [hk] at hr
          simp only [Rd] at hr
          obtain ⟨hlv, hv⟩ := hr
          obtain ⟨vs, U', e1, e2, e3⟩ := h.ob kk _ hlk
          have hq : (.int kd q : Value) = .int kd ((q.toNat : Nat) : Int) := by congr 1; omega
          rcases e1.2 with ⟨⟨o0, g1⟩, g2, _⟩ | ⟨g, cap, cur, g1, _, _, gc, _⟩
          · have hz : q = 0 := by omega
            have hsz := run_sizeOf (P := P) hn w
            have hb := run_sliceBounds (P := P) (w := w) (len := 0) (cap := 0) (l := 0) (h := 0) (by omega) (by omega) (by omega) (some (.int kd 0)) none (k := kd) (k' := .i64) (.inr rfl) (.inl ⟨rfl, rfl⟩)
            have hrun : ∃ v', (Instr.sliceAt U (a.eval x) ((some lo).map a.eval) ((none : Option Operand).map a.eval) none).run P w = .ok v' w := by
              rw [hv, g1]
              simp only [Option.map_none, Option.map_some, hrl, hz, Instr.sliceAt, Sem.run_bind, run_underlying hu, Result.andThen_ok, Instr.slice, hb, hsz, Sem.run_pure]
              exact ⟨_, rfl⟩
            obtain ⟨v', hrun⟩ := hrun
            exact yld_of_run he hrun (by simp only [Rd])
          · refine yld_of_run he (v := .slice (some ⟨g, if cap = q.toNat then 0 else 0 + q.toNat * sz, none⟩) (es.length - q.toNat) (cap - q.toNat)) ?_ (by simp only [Rd])
            · rw [hv, g1]
              exact run_sliceAt2 hu hn (l := q.toNat) (h := es.length) (by omega) gc (some (a.eval lo)) none (k := kd) (k' := .i64) (.inr (by rw [hrl, hq])) (.inl ⟨rfl, rfl⟩)
        · simp at hact
  · simp at hact
end
end Go.Vcg
