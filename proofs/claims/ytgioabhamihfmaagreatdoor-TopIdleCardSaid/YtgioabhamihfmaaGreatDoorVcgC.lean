/-
  Single operations of the model do on the world what they do on data, part two. For every program; no conditions but those that each theorem names.
-/
import Derived.Test.YtgioabhamihfmaaGreatDoorVcgB
import Derived.Laws.MakeOwn
import Derived.Lib.Overlaps
set_option linter.unusedVariables false
set_option linter.unusedSimpArgs false
namespace Go.Vcg
section
variable {P : Program} {T : Tb} {X : Nat → Prop} {Y : Env} {w0 w : World} {c : Cx} {s : St} {a : Act}

/-! ### The walk's objects -/
theorem lk_put (k : Nat) (o : Ob) : ∀ (l : List (Nat × Ob)) (j : Nat), (obPut k o l).lookup j = if j = k then some o else l.lookup j
  | [], j => by simp [obPut, List.lookup]; split <;> simp_all
  | (i, p) :: r, j => by
    simp only [obPut]
    split
    · rename_i h
      subst h
      by_cases hj : j = i
      · simp [List.lookup, hj]
      · have : (j == i) = false := by simpa using hj
        simp [List.lookup, this, hj]
    · rename_i h
      by_cases hj : j = i
      · have : i ≠ k := h
        simp [List.lookup, hj, this]
      · have h1 : (j == i) = false := by simpa using hj
        simp only [List.lookup, h1]
        rw [lk_put k o r j]

theorem lk_del (k : Nat) : ∀ (l : List (Nat × Ob)) (j : Nat), (obDel k l).lookup j = if j = k then none else l.lookup j
  | [], j => by simp [obDel, List.lookup]
  | (i, p) :: r, j => by
    simp only [obDel]
    split
    · rename_i h
      subst h
      rw [lk_del i r j]
      by_cases hj : j = i
      · simp [hj]
      · have : (j == i) = false := by simpa using hj
        simp [List.lookup, this, hj]
    · rename_i h
      by_cases hj : j = i
      · have : i ≠ k := h
        simp [List.lookup, hj, this]
      · have h1 : (j == i) = false := by simpa using hj
        simp only [List.lookup, h1]
        rw [lk_del k r j]

theorem lk_forget (k : Nat) : ∀ (l : List (Nat × Ob)) (j : Nat), (forgetO k l).lookup j = (l.lookup j).map (Ob.forget k)
  | [], j => by simp [forgetO, List.lookup]
  | (i, p) :: r, j => by
    simp only [forgetO]
    by_cases hj : j = i
    · simp [List.lookup, hj]
    · have h1 : (j == i) = false := by simpa using hj
      simp only [List.lookup, h1]
      exact lk_forget k r j

theorem Sat.id_lt (h : Sat T X Y w0 c s a w) {k b : Nat} (hl : c.live k = true) (hb : c.ids k = some b) : b < w.heap.size := by
  rw [h.live] at hl
  obtain ⟨o, ho⟩ := Option.isSome_iff_exists.1 hl
  exact (h.ob k o ho).lt hb

/-- Another place for the objects, the same where they are. -/
def Cx.with (c : Cx) (k : Nat) (b : Option Nat) (v : Value) : Cx :=
  { ids := fun j => if j = k then b else c.ids j, rv := fun j => if j = k then v else c.rv j, live := fun j => if j = k then true else c.live j, ow := c.ow }

/-- The world goes on: blocks of the walk's own may turn. What reads off them stays. -/
theorem Sat.reads (h : Sat T X Y w0 c s a w) {w' : World} {c' : Cx} (hE : Ext (PX X c) w w') (hle : Cx.le (some c) (some c')) (hX : ∀ b, b < w.heap.size → PX X c' b → PX X c b) :
    (∀ (d : D) (v : Value), Rd (PX X c) w (some c) d v → Rd (PX X c') w' (some c') d v) ∧ (∀ (d : D) (v : Value), Rd (PX X c) w none d v → Rd (PX X c') w' none d v) ∧
    (∀ (ds : List D) (vs : List Value), RdL (PX X c) w (some c) ds vs → RdL (PX X c') w' (some c') ds vs) ∧ (∀ (sz : Nat) (es : List (List D)) (vs : List Value), RdE (PX X c) w sz es vs → RdE (PX X c') w' sz es vs) :=
  ⟨fun d v hd => Rd.mono hE (fun _ _ h => h) hX d hle hd, fun d v hd => Rd.mono hE (fun _ _ h => h) hX d (c := none) (c' := none) trivial hd, fun ds vs hd => RdL.mono hE (fun _ _ h => h) hX ds hle hd, fun sz es vs hd => RdE.mono hE (fun _ _ h => h) hX es hd⟩

/-- A new object in a new block. -/
theorem Sat.new (h : Sat T X Y w0 c s a w) {k : Nat} (hk : s.lk k = none) (hkb : k < baseN) {w' : World} (hE : Ext (fun _ => False) w w') {b : Option Nat} (hb : ∀ x, b = some x → w.heap.size ≤ x ∧ x < w'.heap.size) {v : Value} (hv : v.cells = #[v] ∧ v.oneCell' = true) {o : Ob}
    (ho : (∀ (ds : List D) (vs : List Value), RdL (PX X c) w (some c) ds vs → RdL (PX X (c.with k b v)) w' (some (c.with k b v)) ds vs) → (∀ (sz : Nat) (es : List (List D)) (vs : List Value), RdE (PX X c) w sz es vs → RdE (PX X (c.with k b v)) w' sz es vs) → ObOK X w' (c.with k b v) k o) :
    Sat T X Y w0 (c.with k b v) { s with ob := obPut k o s.ob } a w' := by
  have hlive : c.live k = false := by rw [h.live, hk]; rfl
  have hle : Cx.le (some c) (some (c.with k b v)) := by
    intro j hj
    have : j ≠ k := fun e => by subst e; rw [hlive] at hj; cases hj
    simp [Cx.with, this, hj]
  have hPX : ∀ x, x < w.heap.size → PX X (c.with k b v) x → PX X c x := by
    intro x hx hp
    rcases hp with hp | ⟨j, hj, hij⟩ | hp
    · exact .inl hp
    · by_cases hjk : j = k
      · subst hjk
        simp [Cx.with] at hij
        have := hb x hij
        omega
      · simp [Cx.with, hjk] at hj hij
        exact .inr (.inl ⟨j, hj, hij⟩)
    · exact .inr (.inr hp)
  have hE' : Ext (PX X c) w w' := hE.mono fun _ _ h => h.elim
  obtain ⟨r1, r2, r3, r4⟩ := h.reads hE' hle hPX
  have hlk : ∀ j, St.lk { s with ob := obPut k o s.ob } j = if j = k then some o else s.lk j := fun j => lk_put k o s.ob j
  have hw0 : w0.heap.size ≤ w.heap.size := h.ext.size
  refine ⟨?_, r3 _ _ h.tm, ?_, ?_, ?_, h.ext.trans (hE.mono fun _ _ h => h.elim), fun i => r2 _ _ (h.gl i), h.Xb, ?_, h.dfs, ?_, fun b' k' hb' => ⟨(h.owf b' k' hb').1, (h.owf b' k' hb').2.1, Nat.lt_of_lt_of_le (h.owf b' k' hb').2.2 hE.size⟩, ?_⟩
  · intro j
    rw [hlk]
    by_cases hj : j = k
    · simp [Cx.with, hj]
    · simp [Cx.with, hj, h.live]
  · intro j p hp
    rw [hlk] at hp
    by_cases hj : j = k
    · subst hj
      simp at hp
      subst hp
      exact ho r3 r4
    · simp [hj] at hp
      have hold := ObOK.tr (c' := c.with k b v) (k' := j) id hE (fun _ _ h => h.elim) hPX (by simp [Cx.with, hj]) (by simp [Cx.with, hj]) (fun _ _ h => h) (fun b hb => ⟨id, hb⟩) (fun d u hd => r1 d u hd) (fun _ => rfl) (fun _ _ => rfl) (h.ob j p hp)
      rwa [Ob.mapc_id] at hold
  · intro i j x hi hj hix hjx
    by_cases hik : i = k <;> by_cases hjk : j = k
    · rw [hik, hjk]
    · subst hik
      simp [Cx.with] at hix
      simp [Cx.with, hjk] at hj hjx
      have h1 := hb x hix
      exact absurd (Nat.lt_of_lt_of_le (h.id_lt hj hjx) h1.1) (Nat.lt_irrefl _)
    · subst hjk
      simp [Cx.with] at hjx
      simp [Cx.with, hik] at hi hix
      have h1 := hb x hjx
      exact absurd (Nat.lt_of_lt_of_le (h.id_lt hi hix) h1.1) (Nat.lt_irrefl _)
    · simp [Cx.with, hik, hjk] at hi hj hix hjx
      exact h.inj i j x hi hj hix hjx
  · intro j x hj hjx
    by_cases hjk : j = k
    · subst hjk
      simp [Cx.with] at hjx
      have h1 := hb x hjx
      exact ⟨.inl (by omega), h.Xb x (by omega)⟩
    · simp [Cx.with, hjk] at hj hjx
      exact h.fresh j x hj hjx
  · intro j hj
    by_cases hjk : j = k
    · subst hjk; simpa [Cx.with] using hv
    · simp [Cx.with, hjk] at hj ⊢
      exact h.rv1 j hj
  · intro j hj hl
    have hjk : j ≠ k := by omega
    simp [Cx.with, hjk] at hl ⊢
    exact h.base j hj hl
  · intro b' k' j hb' hj hid
    have hlt := (h.owf b' k' hb').2.2
    by_cases hjk : j = k
    · subst hjk
      simp [Cx.with] at hid
      have := (hb b' hid).1
      omega
    · simp [Cx.with, hjk] at hj hid
      exact h.owi b' k' j hb' hj hid

theorem Ext.alloc (w : World) (o : Obj) : Ext (fun _ => False) w (w.alloc o) := ⟨rfl, rfl, rfl, by simp, fun k hk _ => RowKit.Below.heap_alloc w o k hk⟩

theorem Sat.newBox (h : Sat T X Y w0 c s a w) {k : Nat} (hk : s.lk k = none) (hkb : k < baseN) {cs : List D} {vs : List Value} (hr : RdL (PX X c) w (some c) cs vs) (U : TypeId) :
    Sat T X Y w0 (c.with k (some w.heap.size) (.pointer (some ⟨w.heap.size, 0, none⟩))) { s with ob := obPut k (.box cs) s.ob } a (w.alloc (.cells vs.toArray U)) :=
  h.new hk hkb (Ext.alloc _ _) (fun x hx => by simp at hx; subst hx; simp) ⟨rfl, rfl⟩ fun r _ => ⟨w.heap.size, vs.toArray, U, by simp [Cx.with], heap_alloc_new _ _, r _ _ hr⟩

theorem Sat.newRow (h : Sat T X Y w0 c s a w) {k : Nat} (hk : s.lk k = none) (hkb : k < baseN) {sz n : Nat} {es : List (List D)} {vs : List Value} (hr : RdE (PX X c) w sz es vs) (h1 : ∀ u ∈ vs, u.oneCell' = true) (hn : es.length = n) (hm : n ≤ maxLen) (U : TypeId) :
    Sat T X Y w0 (c.with k (some w.heap.size) (.slice (some ⟨w.heap.size, 0, none⟩) n n)) { s with ob := obPut k (.row sz es) s.ob } a (w.alloc (.cells vs.toArray U)) :=
  h.new hk hkb (Ext.alloc _ _) (fun x hx => by simp at hx; subst hx; simp) ⟨rfl, rfl⟩ fun _ r => by
    have hl := hr.length
    refine ⟨vs, U, ⟨hl, .inr ⟨w.heap.size, n, vs.toArray, by simp [Cx.with, hn], by simp [Cx.with], heap_alloc_new _ _, by omega, hm, ?_, ?_⟩⟩, r _ _ _ hr, h1⟩
    · simp [hl, hn]
    · rw [← hl]; simp

/-- A new box, with the slot that points to it. -/
theorem snd_alloc (h : Sat T X Y w0 c s a w) {o : Oper} {U : TypeId} {cs : List D} (ho : o.op = .alloc U) (hz : zeroT P U = some cs) {k : Nat} (hd : o.dst = some k) (hk : s.lk k = none) (hkb : k < baseN) :
    ∃ v w' c', (execOp a.eval o).run P w = .ok (.value v) w' ∧ Sat T X Y w0 c' ((St.mk s.tm (obPut k (.box cs) s.ob)).set (some k) (.own k 0)) (a.put o.dst v) w' := by
  obtain ⟨it, z, hi, hz1, hz2⟩ := zeroT_spec hz
  have hn := h.newBox hk hkb (mL_read (w := w) hz2) U
  simp only [Array.toArray_toList] at hn
  refine ⟨.pointer (some ⟨w.heap.size, 0, none⟩), w.alloc (.cells z.cells U), c.with k (some w.heap.size) (.pointer (some ⟨w.heap.size, 0, none⟩)), ?_, ?_⟩
  · simp only [execOp, ho, Instr.alloc, Sem.run_bind, zeroValue, typeInfo, program, Sem.run, hi, hz1, Sem.run_pure, Result.andThen_ok, newVar, newRow, newObj]
    rfl
  · rw [hd]
    have := hn.put (some k) (d := .own k 0) (v := .pointer (some ⟨w.heap.size, 0, none⟩)) (by simp only [Rd]; exact ⟨by simp [Cx.with], w.heap.size, by simp [Cx.with], rfl⟩)
    simpa using this

/-- A new builder. -/
theorem snd_bnew (h : Sat T X Y w0 c s a w) {o : Oper} {U e : TypeId} (ho : o.op = .alloc U) (hb : bldT P U = some e) {k : Nat} (hd : o.dst = some k) (hk : s.lk k = none) (hkb : k < baseN) :
    ∃ v w' c', (execOp a.eval o).run P w = .ok (.value v) w' ∧ Sat T X Y w0 c' ((St.mk s.tm (obPut k (.bld U e []) s.ob)).set (some k) (.own k 0)) (a.put o.dst v) w' := by
  obtain ⟨it, z, hi, hz1, hz2⟩ := zeroT_spec (bldT_zero hb)
  obtain ⟨⟨l⟩, hl⟩ : ∃ l : Array Value, l = z.cells := ⟨_, rfl⟩
  have hzc : z.cells = #[.pointer none, .slice none 0 0] := by
    have h2 := mL_read (Z := fun _ => False) (cx := none) (w := w) hz2
    simp only [RdL, Rd] at h2
    obtain ⟨v1, r1, e1, rfl, v2, r2, rfl, rfl, rfl⟩ := h2
    exact Array.toList_inj.1 e1
  have hn : Sat T X Y w0 (c.with k (some w.heap.size) (.pointer (some ⟨w.heap.size, 0, none⟩))) { s with ob := obPut k (.bld U e []) s.ob } a (w.alloc (.cells z.cells U)) :=
    h.new hk hkb (Ext.alloc _ _) (fun x hx => by simp at hx; subst hx; simp) ⟨rfl, rfl⟩ fun _ _ => ⟨w.heap.size, .pointer none, .slice none 0 0, none, by simp [Cx.with], by rw [hzc]; exact heap_alloc_new _ _, .inl rfl, OwnsR.nil _ _ _ _, fun _ => rfl, fun x hx => by cases hx⟩
  refine ⟨.pointer (some ⟨w.heap.size, 0, none⟩), w.alloc (.cells z.cells U), c.with k (some w.heap.size) (.pointer (some ⟨w.heap.size, 0, none⟩)), ?_, ?_⟩
  · simp only [execOp, ho, Instr.alloc, Sem.run_bind, zeroValue, typeInfo, program, Sem.run, hi, hz1, Sem.run_pure, Result.andThen_ok, newVar, newRow, newObj]
    rfl
  · rw [hd]
    have := hn.put (some k) (d := .own k 0) (v := .pointer (some ⟨w.heap.size, 0, none⟩)) (by simp only [Rd]; exact ⟨by simp [Cx.with], w.heap.size, by simp [Cx.with], rfl⟩)
    simpa using this

theorem snd_box (h : Sat T X Y w0 c s a w) {o : Oper} {U : TypeId} {x : Operand} {y : Opd} (ho : o.op = .box U x) (hx : cOpd P U x = some y) (hg : (y.ev T s).gu = true) (hc : (y.ev T s).un.cells.all D.cell' = true) {k : Nat} (hd : o.dst = some k) (hk : s.lk k = none) (hkb : k < baseN) :
    ∃ v w' c', (execOp a.eval o).run P w = .ok (.value v) w' ∧ Sat T X Y w0 c' ((St.mk s.tm (obPut k (.box (y.ev T s).un.cells) s.ob)).set (some k) (.own k 0)) (a.put o.dst v) w' := by
  have hn := h.newBox hk hkb (h.cells (h.opdU hx hg) hc) U
  simp only [Array.toArray_toList] at hn
  refine ⟨.pointer (some ⟨w.heap.size, 0, none⟩), w.alloc (.cells (a.eval x).cells U), c.with k (some w.heap.size) (.pointer (some ⟨w.heap.size, 0, none⟩)), ?_, ?_⟩
  · simp only [execOp, ho, Instr.box, Sem.run_bind, Sem.run_pure, Result.andThen_ok, newVar, newRow, newObj, Sem.run]
    rfl
  · rw [hd]
    have := hn.put (some k) (d := .own k 0) (v := .pointer (some ⟨w.heap.size, 0, none⟩)) (by simp only [Rd]; exact ⟨by simp [Cx.with], w.heap.size, by simp [Cx.with], rfl⟩)
    simpa using this

/-- An empty slice without room. -/
theorem snd_emp (h : Sat T X Y w0 c s a w) {o : Oper} {U e : TypeId} {x hi mx : Operand} {y : Opd} {n : Nat} {kh km : IntKind} (ho : o.op = .slice U x none (some hi) (some mx)) (hu : P.underlying U = some (.slice e)) (hn : sizeT P e = some n) (hx : cOpd P U x = some y) (hhi : cOpd P 0 hi = some (.c (.int kh 0))) (hmx : cOpd P 0 mx = some (.c (.int km 0))) (hg : (y.ev T s).gu = true)
    (hk0 : (∃ sz es, (y.ev T s).un = .fz sz es) ∨ ∃ z, (y.ev T s).un = .nl z) {k : Nat} (hd : o.dst = some k) (hk : s.lk k = none) (hkb : k < baseN) :
    ∃ v w' c', (execOp a.eval o).run P w = .ok (.value v) w' ∧ Sat T X Y w0 c' ((St.mk s.tm (obPut k (.row n []) s.ob)).set (some k) (.row k)) (a.put o.dst v) w' := by
  have hr := h.opdU hx hg
  have hrh := h.opd hhi
  have hrm := h.opd hmx
  simp only [Opd.ev, Rd] at hrh hrm
  have he : execOp a.eval o = (do pure (.value (← Instr.sliceAt U (a.eval x) none (some (a.eval hi)) (some (a.eval mx))))) := by simp only [execOp, ho]; rfl
  have hsz := run_sizeOf (P := P) hn w
  have hb : ∀ len cap, (Instr.sliceBounds true len cap none (some (.int kh 0)) (some (.int km 0))).run P w = .ok (0, 0, 0) w := by
    intro len cap
    have h1 := run_sliceBound (P := P) (w := w) (k := km) (show 0 ≤ cap by omega) .slice3Acap
    have h2 := run_sliceBound (P := P) (w := w) (k := kh) (show 0 ≤ 0 by omega) .slice3B
    simp only [Int.ofNat_eq_natCast, Int.natCast_zero] at h1 h2
    have h1' : (Instr.sliceBound (.int km 0) cap .slice3Acap).run P w = .ok 0 w := h1
    have h2' : (Instr.sliceBound (.int kh 0) 0 .slice3B).run P w = .ok 0 w := h2
    simp [Instr.sliceBounds, h1', h2']
  have hsl : ∃ o0 len cap, a.eval x = .slice o0 len cap := by
    rcases hk0 with ⟨sz, es, hk0⟩ | ⟨z, hk0⟩
    · rw [hk0] at hr
      simp only [Rd] at hr
      rcases hr with ⟨⟨o0, hv⟩, _⟩ | ⟨b, off, cap, vs, hv, _⟩
      · exact ⟨_, _, _, hv⟩
      · exact ⟨_, _, _, hv⟩
    · rw [hk0] at hr
      simp only [Rd] at hr
      exact ⟨_, _, _, hr⟩
  obtain ⟨o0, len, cap, hv⟩ := hsl
  have key : (Instr.sliceAt U (.slice o0 len cap) none (some (.int kh 0)) (some (.int km 0))).run P w = .ok (.slice o0 0 0) w := by
    simp only [Instr.sliceAt, Sem.run_bind, run_underlying hu, Result.andThen_ok, Instr.slice, hb len cap, hsz, Sem.run_pure]
    simp
  have hnew := h.new hk hkb (Ext.refl (fun _ => False) w) (b := none) (by simp) (v := .slice o0 0 0) ⟨rfl, rfl⟩ (o := .row n []) (fun _ _ => ⟨[], 0, by simpa [Cx.with] using OwnsR.nil w 0 n o0, by simp [RdE], by simp⟩)
  refine ⟨.slice o0 0 0, w, c.with k none (.slice o0 0 0), ?_, ?_⟩
  · rw [he, hv, hrh, hrm, Sem.run_bind, key]; rfl
  · rw [hd]
    exact hnew.put (some k) (d := .row k) (by simp only [Rd]; exact ⟨by simp [Cx.with], by simp [Cx.with]⟩)

/-! ### Slice literals -/
theorem fill_rows (hS : Sat T X Y w0 c s a w) {e : TypeId} {sz : Nat} {place : Nat → Option (Nat × Nat)} (hpl : ∀ i, place i = some (i * sz, sz)) :
    ∀ {ps : List (Nat × Operand)} {qs : List (Nat × Opd)}, cRows P e ps = some qs → gus T s (qs.map (·.2)) → ∀ {es : List (List D)} {us : List Value} {φ : Prop} {out : List (List D)}, fillRows sz (fun x => (x.ev T s).un) qs es = some (φ, out) → φ →
      RdE (PX X c) w sz es us → (∀ u ∈ us, u.oneCell' = true) → ∃ vs, Instr.fill place us.toArray (ps.map fun p => (p.1, a.eval p.2)) = some vs.toArray ∧ RdE (PX X c) w sz out vs ∧ (∀ u ∈ vs, u.oneCell' = true) ∧ out.length = es.length
  | [], qs, h, _, es, us, φ, out, hf, _, hr, h1 => by
    simp [cRows] at h
    subst h
    simp only [fillRows, Option.some.injEq, Prod.mk.injEq] at hf
    obtain ⟨_, rfl⟩ := hf
    exact ⟨us, rfl, hr, h1, rfl⟩
  | (i, x) :: ps, qs, h, hg, es, us, φ, out, hf, hφ, hr, h1 => by
    simp only [cRows] at h
    split at h
    · rename_i y l hy hl
      simp at h
      subst h
      simp only [List.map_cons, gus] at hg
      simp only [fillRows] at hf
      split at hf
      · rename_i ψ out' hf'
        simp only [Option.some.injEq, Prod.mk.injEq] at hf
        obtain ⟨rfl, rfl⟩ := hf
        obtain ⟨g1, g2, g3, g4⟩ := hφ
        have hc' : (y.ev T s).un.cells.all D.cell' = true := by
          rw [List.all_eq_true] at g2 ⊢
          exact fun d hd => cell_cell' (g2 d hd)
        have hd := hS.cells (hS.opdU hy hg.1) hc'
        have hone := hS.ones hd hc'
        have hd0 : RdL (PX X c) w none ((y.ev T s).un.cells.map D.pl) (a.eval x).cells.toList := (hd.open_ g2).pl
        have hlen := hd.length
        have hul := hr.length
        have hsz : (a.eval x).cells.toList.length = sz := hlen.trans g1
        have hin : i * sz + sz ≤ us.length := by rw [hul, ← Nat.succ_mul]; exact Nat.mul_le_mul_right sz g3
        obtain ⟨vs, e1, e2, e3, e4⟩ := fill_rows hS hpl hl hg.2 hf' g4 (RdE.set i hd0 hsz hr g3) (by
          intro u hu
          rw [List.mem_append, List.mem_append] at hu
          rcases hu with (hu | hu) | hu
          · exact h1 u (List.mem_of_mem_take hu)
          · exact hone u hu
          · exact h1 u (List.mem_of_mem_drop hu))
        refine ⟨vs, ?_, e2, e3, by rw [e4]; simp⟩
        rw [List.map_cons, fill_cons (hpl i) (by simpa using hsz) (by simpa using hin)]
        rw [← e1]
      · simp at hf
    · simp at h

theorem rows_replicate {sz : Nat} {ds : List D} {vs : List Value} (h : RdL X w none ds vs) (hl : vs.length = sz) : ∀ n, RdE X w sz (List.replicate n ds) (List.replicate n vs).flatten
  | 0 => by simp [RdE]
  | n + 1 => by
    simp only [List.replicate_succ, List.flatten_cons, RdE]
    exact ⟨vs, _, rfl, hl, h, rows_replicate h hl n⟩

theorem range_cells (z : Array Value) (n : Nat) (hz : 0 < z.size) : ((Array.range (n * z.size)).map (z[· % z.size]!)) = ((List.replicate n z.toList).flatten).toArray := by
  apply Array.ext'
  simp only [Array.toList_map, Array.toList_range]
  induction n with
  | zero => simp
  | succ n ih =>
    rw [Nat.succ_mul, List.range_add, List.map_append, ih, List.replicate_succ', List.flatten_append]
    congr 1
    simp only [List.map_map, List.flatten_cons, List.flatten_nil, List.append_nil]
    apply List.ext_getElem
    · simp
    · intro i h1 h2
      simp at h1
      simp [Nat.mod_eq_of_lt h1, h1]

theorem snd_bslice (h : Sat T X Y w0 c s a w) {o : Oper} {U e : TypeId} {n sz : Nat} {parts : Array (Nat × Operand)} {zs : List D} {qs : List (Nat × Opd)} (ho : o.op = .buildSlice U n parts) (hu : P.underlying U = some (.slice e)) (hz : zeroT P e = some zs) (hsz : sizeT P e = some sz) (hq : cRows P e parts.toList = some qs)
    (hzl : zs.length = sz) (h0 : 0 < sz) (hn0 : 0 < n) (hmax : n * sz ≤ 16777216) (hg : gus T s (qs.map (·.2))) {φ : Prop} {es : List (List D)} (hf : fillRows sz (fun x => (x.ev T s).un) qs (List.replicate n zs) = some (φ, es)) (hφ : φ)
    {k : Nat} (hd : o.dst = some k) (hk : s.lk k = none) (hkb : k < baseN) :
    ∃ v w' c', (execOp a.eval o).run P w = .ok (.value v) w' ∧ Sat T X Y w0 c' ((St.mk s.tm (obPut k (.row sz es) s.ob)).set (some k) (.row k)) (a.put o.dst v) w' := by
  obtain ⟨it, z, hi, hz1, hz2⟩ := zeroT_spec hz
  have hisz : it.size = sz := by simpa [sizeT, hi] using hsz
  have hzr : RdL (PX X c) w none zs z.cells.toList := mL_read hz2
  have hzlen : z.cells.size = sz := by have := hzr.length; simpa [hzl] using this
  have hz1c : ∀ u ∈ z.cells.toList, u.oneCell' = true := by
    intro u hu
    obtain ⟨j, hj, rfl⟩ := List.getElem_of_mem hu
    have : ∀ {ds : List D} {vs : List Value}, mL ds vs = true → ∀ u ∈ vs, u.oneCell' = true := by
      intro ds
      induction ds with
      | nil => intro vs hm u hu; cases vs <;> simp [mL] at hm hu
      | cons d ds ih =>
        intro vs hm u hu
        cases vs with
        | nil => simp at hu
        | cons v vs =>
          simp only [mL, Bool.and_eq_true] at hm
          rcases List.mem_cons.1 hu with rfl | hu
          · have h1 := hm.1
            cases u <;> first | rfl | (cases d <;> simp [mV] at h1)
          · exact ih hm.2 u hu
    exact this hz2 _ hu
  obtain ⟨vs, e1, e2, e3, e4⟩ := fill_rows h (P := P) (place := fun i => some (i * sz, sz)) (fun _ => rfl) hq hg hf hφ (rows_replicate hzr (by simpa using hzlen) n) (by
    intro u hu
    simp only [List.mem_flatten, List.mem_replicate] at hu
    obtain ⟨l, ⟨_, rfl⟩, hu⟩ := hu
    exact hz1c u hu)
  have hesn : es.length = n := by rw [e4]; simp
  have hnm : n ≤ maxLen := by
    have : n ≤ n * sz := Nat.le_mul_of_pos_right n h0
    simp only [maxLen]; omega
  have hnew := h.newRow hk hkb e2 e3 hesn hnm e
  refine ⟨.slice (some ⟨w.heap.size, 0, none⟩) n n, w.alloc (.cells vs.toArray e), c.with k (some w.heap.size) (.slice (some ⟨w.heap.size, 0, none⟩) n n), ?_, ?_⟩
  · have hr := run_buildSlice (P := P) w U e n (parts.map fun (i, x) => (i, a.eval x)) vs.toArray it z hu hi hz1 (by rw [hisz]; omega) (by rw [hisz]; exact Nat.mul_ne_zero (by omega) (by omega)) (by
      rw [hisz, ← hzlen, range_cells z.cells n (by omega), hzlen]
      rw [← e1]
      simp [Array.toList_map])
    simp only [execOp, ho, Sem.run_bind, hr, Result.andThen_ok, Sem.run_pure]
  · rw [hd]
    exact hnew.put (some k) (d := .row k) (by simp only [Rd]; exact ⟨by simp [Cx.with], by simp [Cx.with]⟩)

theorem snd_bs0 (h : Sat T X Y w0 c s a w) {o : Oper} {U e : TypeId} {sz : Nat} (ho : o.op = .buildSlice U 0 #[]) (hu : P.underlying U = some (.slice e)) (hsz : sizeT P e = some sz) (h0 : 0 < sz) {k : Nat} (hd : o.dst = some k) (hk : s.lk k = none) (hkb : k < baseN) :
    ∃ v w' c', (execOp a.eval o).run P w = .ok (.value v) w' ∧ Sat T X Y w0 c' ((St.mk s.tm (obPut k (.row sz []) s.ob)).set (some k) (.row k)) (a.put o.dst v) w' := by
  have he : (execOp a.eval o).run P w = .ok (.value (.slice (some ⟨w.heap.size, 0, none⟩) 0 0)) (w.alloc (.cells #[] e)) := by
    unfold execOp
    have hr0 : Array.range 0 = #[] := rfl
    simp [ho, Instr.buildSlice, run_underlying hu, run_sizeOf hsz, Instr.fill, newRow, hr0]
  have hnew := h.newRow (k := k) hk hkb (sz := sz) (n := 0) (es := []) (vs := []) (by simp [RdE]) (by simp) rfl (by simp [maxLen]) e
  obtain ⟨c', hS, hrd⟩ : ∃ c', Sat T X Y w0 c' (St.mk s.tm (obPut k (.row sz []) s.ob)) a (w.alloc (.cells #[] e)) ∧ Rd (PX X c') (w.alloc (.cells #[] e)) (some c') (.row k) (.slice (some ⟨w.heap.size, 0, none⟩) 0 0) := by
    refine ⟨c.with k (some w.heap.size) (.slice (some ⟨w.heap.size, 0, none⟩) 0 0), by simpa using hnew, ?_⟩
    simp only [Rd]
    exact ⟨by simp [Cx.with], by simp [Cx.with]⟩
  refine ⟨_, _, c', he, ?_⟩
  rw [hd]
  exact hS.put (some k) hrd

theorem mL_one : ∀ {ds : List D} {vs : List Value}, mL ds vs = true → ∀ u ∈ vs, u.oneCell' = true
  | [], vs, hm, u, hu => by cases vs <;> simp [mL] at hm hu
  | d :: ds, [], hm, u, hu => by simp at hu
  | d :: ds, v :: vs, hm, u, hu => by
    simp only [mL, Bool.and_eq_true] at hm
    rcases List.mem_cons.1 hu with rfl | hu
    · have h1 := hm.1
      cases u <;> first | rfl | (cases d <;> simp [mV] at h1)
    · exact mL_one hm.2 u hu

theorem snd_mks (h : Sat T X Y w0 c s a w) {o : Oper} {U e : TypeId} {x y : Operand} {x' y' : Opd} {i : TypeInfo} {zs : List D} (ho : o.op = .makeSlice U x y) (hu : P.underlying U = some (.slice e)) (hi : P.info? e = some i) (hz : zeroT P e = some zs) (hx : cOpd P 0 x = some x') (hy : cOpd P 0 y = some y')
    (hzl : zs.length = i.size) (h0 : 0 < i.size) (hg : (x'.ev T s).gu = true) (hg' : (y'.ev T s).gu = true) {n m : Int} (hk1 : (x'.ev T s).un = .int .i64 n) (hk2 : (y'.ev T s).un = .int .i64 m) (hn : 0 ≤ n) (hnm : n = m) (hmax : n ≤ 4294967296) (hby : n * i.bytes ≤ 140737488355328)
    {k : Nat} (hd : o.dst = some k) (hk : s.lk k = none) (hkb : k < baseN) :
    ∃ v w' c', (execOp a.eval o).run P w = .ok (.value v) w' ∧ Sat T X Y w0 c' ((St.mk s.tm (obPut k (.row i.size (List.replicate n.toNat (zs.map D.pl))) s.ob)).set (some k) (.row k)) (a.put o.dst v) w' := by
  subst hnm
  have hrx := h.opdU hx hg
  have hry := h.opdU hy hg'
  rw [hk1] at hrx
  rw [hk2] at hry
  simp only [Rd] at hrx hry
  obtain ⟨it, z, hit, hz1, hz2⟩ := zeroT_spec hz
  obtain rfl : it = i := Option.some.inj (hit.symm.trans hi)
  have hzr : RdL (PX X c) w none zs z.cells.toList := mL_read hz2
  have hzlen : z.cells.size = it.size := by have := hzr.length; simpa [hzl] using this
  have hr := run_make (P := P) w U e it z hu hi hz1 .i64 .i64 n n hn (Int.le_refl _) (by rw [Int.mul_comm]; omega) (by omega)
  have hcells : madeCells z.cells (n.toNat * it.size) = ((List.replicate n.toNat z.cells.toList).flatten).toArray := by
    have := range_cells z.cells n.toNat (by omega)
    unfold madeCells
    rw [← this, hzlen]
  rw [hcells] at hr
  have hnew := h.newRow hk hkb (sz := it.size) (n := n.toNat) (rows_replicate hzr.pl (by simpa using hzlen) n.toNat) (by
    intro u hu
    simp only [List.mem_flatten, List.mem_replicate] at hu
    obtain ⟨l, ⟨_, rfl⟩, hu⟩ := hu
    exact mL_one hz2 u hu) (by simp) (by simp only [maxLen]; omega) e
  refine ⟨.slice (some ⟨w.heap.size, 0, none⟩) n.toNat n.toNat, w.alloc (.cells ((List.replicate n.toNat z.cells.toList).flatten).toArray e), c.with k (some w.heap.size) (.slice (some ⟨w.heap.size, 0, none⟩) n.toNat n.toNat), ?_, ?_⟩
  · simp only [execOp, ho, Sem.run_bind, hrx, hry, hr, Result.andThen_ok, Sem.run_pure]
  · rw [hd]
    exact hnew.put (some k) (d := .row k) (by simp only [Rd]; exact ⟨by simp [Cx.with], by simp [Cx.with]⟩)
end
end Go.Vcg

namespace Go.Vcg
section
variable {P : Program} {T : Tb} {X : Nat → Prop} {Y : Env} {w0 w : World} {c : Cx} {s : St} {a : Act}

/-- An object is turned in its own block. -/
theorem Sat.upd (h : Sat T X Y w0 c s a w) {k : Nat} {p o : Ob} (hk : s.lk k = some p) {w' : World} (hE : Ext (fun b => c.ids k = some b) w w')
    (ho : (∀ (ds : List D) (vs : List Value), RdL (PX X c) w (some c) ds vs → RdL (PX X c) w' (some c) ds vs) → (∀ (sz : Nat) (es : List (List D)) (vs : List Value), RdE (PX X c) w sz es vs → RdE (PX X c) w' sz es vs) → ObOK X w' c k o) :
    Sat T X Y w0 c { s with ob := obPut k o s.ob } a w' := by
  have hl : c.live k = true := by rw [h.live, hk]; rfl
  have hE' : Ext (PX X c) w w' := hE.mono fun b _ hb => .inr (.inl ⟨k, hl, hb⟩)
  obtain ⟨r1, r2, r3, r4⟩ := h.reads (c' := c) hE' (Cx.le_refl _) (fun _ _ h => h)
  have hlk : ∀ j, St.lk { s with ob := obPut k o s.ob } j = if j = k then some o else s.lk j := fun j => lk_put k o s.ob j
  refine ⟨?_, r3 _ _ h.tm, ?_, h.inj, h.fresh, h.ext.trans' hE (fun b hb hw => ?_), fun i => r2 _ _ (h.gl i), h.Xb, h.rv1, h.dfs, h.base, fun b k hb => ⟨(h.owf b k hb).1, (h.owf b k hb).2.1, Nat.lt_of_lt_of_le (h.owf b k hb).2.2 hE.size⟩, h.owi⟩
  · intro j
    rw [hlk]
    by_cases hj : j = k
    · simp [hj, hl]
    · simp [hj, h.live]
  · intro j q hq
    rw [hlk] at hq
    by_cases hj : j = k
    · subst hj
      simp at hq
      subst hq
      exact ho r3 r4
    · simp [hj] at hq
      have hlj : c.live j = true := by rw [h.live, hq]; rfl
      have hne : ∀ b, c.ids j = some b → ¬ c.ids k = some b := fun b h1 h2 => hj (h.inj j k b hlj hl h1 h2)
      have hold := ObOK.tr (c' := c) (k' := j) id hE (fun b _ hb => .inr (.inl ⟨k, hl, hb⟩)) (fun _ _ h => h) rfl rfl hne (fun b hb => ⟨h.owi b j k hb hl, hb⟩) (fun d u hd => r1 d u hd) (fun _ => rfl) (fun _ _ => rfl) (h.ob j q hq)
      rwa [Ob.mapc_id] at hold
  · rcases (h.fresh k b hl hb).1 with h1 | h1
    · exact .inl h1
    · exact .inr h1

theorem Ext.setRow {b : Nat} {arr : Array Value} (w : World) : Ext (fun x => x = b) w (w.setRow b arr) :=
  ⟨rfl, rfl, rfl, by simp, fun k _ hk => setRow_other w b k arr hk⟩

theorem run_storeAt {U : TypeId} {n : Nat} (hn : sizeT P U = some n) {b o : Nat} {arr : Array Value} {E : TypeId} (hb : w.heap[b]? = some (.cells arr E (0, 0))) {v : Value} (hv : v.cells.size = n) (hl : o + n ≤ arr.size) (h1 : ∀ u ∈ v.cells.toList, u.oneCell' = true) :
    (Instr.storeAt U (.pointer (some ⟨b, o, none⟩)) v).run P w = .ok () (w.setRow b (arr.toList.take o ++ v.cells.toList ++ arr.toList.drop (o + n)).toArray) := by
  have hne : ¬ v.cells.size ≠ n := by omega
  have := run_storeCells_at (P := P) b o E v.cells.toList 0 arr w hb (by simpa [hv] using hl) h1
  simp only [Instr.storeAt, Instr.sureAddr, Sem.run_bind, Sem.run_pure, Result.andThen_ok, storeVar, run_sizeOf hn, if_neg hne]
  rw [this]
  simp [hv]

theorem rdL_any {Z : Nat → Prop} {cx : Option Cx} : ∀ (n : Nat) (vs : List Value), vs.length = n → RdL Z w cx (List.replicate n .any) vs
  | 0, vs, h => by
    obtain rfl := List.eq_nil_of_length_eq_zero h
    simp [RdL]
  | n + 1, vs, h => by
    cases vs with
    | nil => simp at h
    | cons v vs =>
      simp only [List.replicate_succ, RdL]
      exact ⟨_, _, rfl, by simp only [Rd], rdL_any n vs (by simpa using h)⟩
/-- Cells of one element are turned. -/
theorem storeCut {sz m n i off : Nat} {vs us : List Value} (hvl : vs.length = m * sz) (hi : i < m) (hus : us.length = n) (hl : off + n ≤ sz) :
    vs.take (i * sz) ++ ((List.take off (List.take sz (List.drop (i * sz) vs))) ++ us ++ List.drop (off + us.length) (List.take sz (List.drop (i * sz) vs))) ++ vs.drop (i * sz + sz)
      = vs.take (i * sz + off) ++ us ++ vs.drop (i * sz + off + n) := by
  have hin : i * sz + sz ≤ m * sz := by rw [← Nat.succ_mul]; exact Nat.mul_le_mul_right sz hi
  simp only [hus, List.append_assoc]
  rw [List.take_take, Nat.min_eq_left (by omega), List.drop_take, List.drop_drop, List.take_add]
  simp only [List.append_assoc]
  congr 3
  have : vs.drop (i * sz + off + n) = (vs.drop (i * sz + off + n)).take (sz - (off + n)) ++ (vs.drop (i * sz + off + n)).drop (sz - (off + n)) := (List.take_append_drop _ _).symm
  rw [this, List.drop_drop]
  congr 1
  · rw [Nat.add_assoc]
  · congr 1; omega
theorem OwnsR.store {U : TypeId} {n : Nat} {e : TypeId} {sz m i off : Nat} {ob : Option Nat} {v : Value} {vs : List Value} (h : OwnsR w e sz ob v m vs) {b : Nat} (hb : ob = some b) (hn : sizeT P U = some n) (hi : i < m) (hl : off + n ≤ sz) {u : Value} (hvs : u.cells.size = n) (hone : ∀ x ∈ u.cells.toList, x.oneCell' = true) (h1 : ∀ x ∈ vs, x.oneCell' = true) :
    ∃ w', (Instr.storeAt U (.pointer (some ⟨b, i * sz + off, none⟩)) u).run P w = .ok () w' ∧ Ext (fun x => x = b) w w' ∧ OwnsR w' e sz ob v m (vs.take (i * sz + off) ++ u.cells.toList ++ vs.drop (i * sz + off + n)) ∧ ∀ x ∈ vs.take (i * sz + off) ++ u.cells.toList ++ vs.drop (i * sz + off + n), x.oneCell' = true := by
  have hvl := h.1
  rcases h.2 with ⟨_, _, g2⟩ | ⟨g, cap, cur, g1, g2, g3, g4, g5, g6, g7⟩
  · rw [hb] at g2; cases g2
  · rw [hb] at g2
    obtain rfl := Option.some.inj g2
    have hin : i * sz + sz ≤ m * sz := by rw [← Nat.succ_mul]; exact Nat.mul_le_mul_right sz hi
    have hcap : m * sz ≤ cur.size := by rw [g6]; exact Nat.mul_le_mul_right sz g4
    have hrun := run_storeAt (P := P) (w := w) hn g3 hvs (o := i * sz + off) (by omega) hone
    refine ⟨_, hrun, Ext.setRow w, ⟨?_, .inr ⟨b, cap, _, g1, hb, setRow_heap w b cur _ e _ g3, g4, g5, ?_, ?_⟩⟩, ?_⟩
    · simp only [List.length_append, List.length_take, List.length_drop, Array.length_toList, hvs]; omega
    · simp only [List.size_toArray, List.length_append, List.length_take, List.length_drop, Array.length_toList, hvs]; omega
    · rw [← g7]
      have hc1 : (cur.toList.take (i * sz + off)).length = i * sz + off := by rw [List.length_take, Array.length_toList]; omega
      have hvn : u.cells.toList.length = n := by simpa using hvs
      rw [List.append_assoc, List.take_append, List.take_append, hc1, hvn, List.append_assoc]
      congr 1
      · rw [List.take_take, List.take_take]; congr 1; omega
      · congr 1
        · rw [List.take_of_length_le (by omega)]
        · rw [List.drop_take]
          congr 1
          omega
    · intro x hx
      rw [List.mem_append, List.mem_append] at hx
      rcases hx with (hx | hx) | hx
      · exact h1 x (List.mem_of_mem_take hx)
      · exact hone x hx
      · exact h1 x (List.mem_of_mem_drop hx)
theorem splice_readS {Z : Nat → Prop} {cx : Option Cx} {cs ds : List D} {us vs : List Value} {bs : List Nat} (h : RdSL Z w cx cs us bs) (g : RdL Z w cx ds vs) (off : Nat) :
    ∃ bs', bs'.Sublist bs ∧ RdSL Z w cx (splice cs off ds) (us.take off ++ vs ++ us.drop (off + vs.length)) bs' := by
  obtain ⟨b1, r, rfl, h1, h2⟩ := h.split off
  obtain ⟨c1, c2, rfl, _, h4⟩ := h2.split ds.length
  have hl := g.length
  unfold splice
  rw [hl]
  rw [List.drop_drop, List.drop_drop] at h4
  exact ⟨b1 ++ c2, (List.Sublist.refl _).append (List.sublist_append_right _ _), by simpa using (h1.append (RdSL.of_closed g)).append h4⟩

theorem snd_store (h : Sat T X Y w0 c s a w) {o : Oper} {U : TypeId} {x v : Operand} {y z : Opd} {n : Nat} (ho : o.op = .store U x v) (hn : sizeT P U = some n) (hx : cOpd P 0 x = some y) (hz : cOpd P U v = some z) (hg : (y.ev T s).gu = true) (hg' : (z.ev T s).gu = true) (hd : o.dst = none)
    {φ : Prop} {k : Nat} {ob : Ob} (hact : act T (.store n y z) (fun x => (x.ev T s).un) s.lk = some (φ, .put k ob)) (hφ : φ) :
    ∃ w', (execOp a.eval o).run P w = .ok .skip w' ∧ Sat T X Y w0 c { s with ob := obPut k ob s.ob } (a.put o.dst undef) w' := by
  have hr := h.opdU hx hg
  have hrv := h.opdU hz hg'
  have hput : a.put o.dst undef = a := by rw [hd]; rfl
  have he : ∀ w', (Instr.storeAt U (a.eval x) (a.eval v)).run P w = .ok () w' → (execOp a.eval o).run P w = .ok .skip w' := fun w' hw => by
    simp only [execOp, ho, Sem.run_bind, hw, Result.andThen_ok, Sem.run_pure]
  simp only [act] at hact
  split at hact
  · rename_i k' off hk
    split at hact
    · rename_i cs hlk
      simp only [Option.some.injEq, Prod.mk.injEq, Eff.put.injEq] at hact
      obtain ⟨rfl, rfl, rfl⟩ := hact
      obtain ⟨hl, hlen, hc⟩ := hφ
      rw [hk] at hr
      simp only [Rd] at hr
      obtain ⟨hlv, b, hb, hv⟩ := hr
      obtain ⟨b', arr, E, e1, e2, e3⟩ := h.ob k' _ hlk
      obtain rfl : b' = b := Option.some.inj (e1.symm.trans hb)
      have hrc := h.cells hrv hc
      have hone := h.ones hrc hc
      have hcl := hrc.length
      have hal := e3.length
      have hvs : (a.eval v).cells.size = n := by simpa [hlen] using hcl
      have hsz : arr.size = cs.length := by simpa using hal
      have hrun := run_storeAt (P := P) (w := w) hn e2 hvs (by omega) hone (o := off)
      refine ⟨_, he _ (by rw [hv]; exact hrun), ?_⟩
      rw [hput]
      refine h.upd hlk ((Ext.setRow w).mono fun q _ hq => by subst hq; exact e1) fun r3 _ => ?_
      refine ⟨b', _, E, e1, setRow_heap w b' arr _ E _ e2, ?_⟩
      have hsp := splice_read e3 hrc off
      rw [hcl, hlen] at hsp
      simpa using r3 _ _ hsp
    · simp at hact
  · rename_i k' sz i off hk
    split at hact
    · rename_i sz' es hlk
      simp only [Option.some.injEq, Prod.mk.injEq, Eff.put.injEq] at hact
      obtain ⟨rfl, rfl, rfl⟩ := hact
      obtain ⟨rfl, hi, hl, hlen, hc⟩ := hφ
      rw [hk] at hr
      simp only [Rd] at hr
      obtain ⟨hlv, b, hb, hv⟩ := hr
      obtain ⟨vs, E, e1, e2, e3⟩ := h.ob k' _ hlk
      rcases e1.2 with ⟨g1, _, g2⟩ | ⟨g, cap, cur, g1, g2, g3, g4, g5, g6, g7⟩
      · rw [hb] at g2; cases g2
      · obtain rfl : b = g := Option.some.inj (hb.symm.trans g2)
        have hc' : (z.ev T s).un.cells.all D.cell' = true := by
          rw [List.all_eq_true] at hc ⊢
          exact fun d hd => cell_cell' (hc d hd)
        have hrc := h.cells hrv hc'
        have hone := h.ones hrc hc'
        have hrn := hrc.open_ hc
        have hcl := hrc.length
        have hvl := e2.length
        have hvs : (a.eval v).cells.size = n := by simpa [hlen] using hcl
        have hin : i * sz' + sz' ≤ es.length * sz' := by rw [← Nat.succ_mul]; exact Nat.mul_le_mul_right sz' hi
        have hcap : es.length * sz' ≤ cur.size := by rw [g6]; exact Nat.mul_le_mul_right sz' g4
        have hrun := run_storeAt (P := P) (w := w) hn g3 hvs (o := i * sz' + off) (by omega) hone
        refine ⟨_, he _ (by rw [hv]; exact hrun), ?_⟩
        rw [hput]
        refine h.upd hlk ((Ext.setRow w).mono fun q _ hq => by subst hq; exact hb) fun _ r4 => ?_
        have hei : es[i]? = some (elem es i) := by simp [elem, hi]
        obtain ⟨q1, q2⟩ := e2.get i _ hei
        have hnew := splice_read q1 hrn.pl off
        have hnl : ((List.take off (List.take sz' (List.drop (i * sz') vs))) ++ (a.eval v).cells.toList ++ List.drop (off + (a.eval v).cells.toList.length) (List.take sz' (List.drop (i * sz') vs))).length = sz' := by
          simp only [List.length_append, List.length_take, List.length_drop, Array.length_toList, hvs]
          omega
        have hset := RdE.set i hnew hnl e2 hi
        have hlist : vs.take (i * sz') ++ ((List.take off (List.take sz' (List.drop (i * sz') vs))) ++ (a.eval v).cells.toList ++ List.drop (off + (a.eval v).cells.toList.length) (List.take sz' (List.drop (i * sz') vs))) ++ vs.drop (i * sz' + sz')
            = vs.take (i * sz' + off) ++ (a.eval v).cells.toList ++ vs.drop (i * sz' + off + n) := by
          simp only [Array.length_toList, hvs, List.append_assoc]
          rw [List.take_take, Nat.min_eq_left (by omega), List.drop_take, List.drop_drop, List.take_add]
          simp only [List.append_assoc]
          congr 3
          have : vs.drop (i * sz' + off + n) = (vs.drop (i * sz' + off + n)).take (sz' - (off + n)) ++ (vs.drop (i * sz' + off + n)).drop (sz' - (off + n)) := (List.take_append_drop _ _).symm
          rw [this, List.drop_drop]
          congr 1
          · rw [Nat.add_assoc]
          · congr 1; omega
        rw [hlist] at hset
        have hvl' : vs.length = es.length * sz' := hvl
        refine ⟨_, E, ⟨?_, .inr ⟨b, cap, _, by rw [g1]; simp, g2, setRow_heap w b cur _ E _ g3, by simpa using g4, g5, ?_, ?_⟩⟩, r4 _ _ _ hset, ?_⟩
        · simp only [List.length_append, List.length_take, List.length_drop, Array.length_toList, hvs, List.length_set]; omega
        · simp only [List.size_toArray, List.length_append, List.length_take, List.length_drop, Array.length_toList, hvs]; omega
        · simp only [List.toList_toArray, List.length_set]
          rw [← g7]
          have hc1 : (cur.toList.take (i * sz' + off)).length = i * sz' + off := by rw [List.length_take, Array.length_toList]; omega
          have hvn : (a.eval v).cells.toList.length = n := by simpa using hvs
          rw [List.append_assoc, List.take_append, List.take_append, hc1, hvn, List.append_assoc]
          congr 1
          · rw [List.take_take, List.take_take]; congr 1; omega
          · congr 1
            · rw [List.take_of_length_le (by omega)]
            · rw [List.drop_take]
              congr 1
              omega
        · intro u hu
          rw [List.mem_append, List.mem_append] at hu
          rcases hu with (hu | hu) | hu
          · exact e3 u (List.mem_of_mem_take hu)
          · exact hone u hu
          · exact e3 u (List.mem_of_mem_drop hu)
    · rename_i sz' es hlk
      simp only [Option.some.injEq, Prod.mk.injEq, Eff.put.injEq] at hact
      obtain ⟨rfl, rfl, rfl⟩ := hact
      obtain ⟨rfl, hi, hl, hlen, hc⟩ := hφ
      rw [hk] at hr
      simp only [Rd] at hr
      obtain ⟨hlv, b, hb, hv⟩ := hr
      obtain ⟨b', cur, E, e1, e2, e3, e4, e5⟩ := h.ob k' _ hlk
      obtain rfl : b' = b := Option.some.inj (e1.symm.trans hb)
      have hc' : (z.ev T s).un.cells.all D.cell' = true := by
        rw [List.all_eq_true] at hc ⊢
        exact fun d hd => cell_cell' (hc d hd)
      have hrc := h.cells hrv hc'
      have hone := h.ones hrc hc'
      have hrn := hrc.open_ hc
      have hcl := hrc.length
      have hvl := e5.length
      have hvs : (a.eval v).cells.size = n := by simpa [hlen] using hcl
      have hin : i * sz' + sz' ≤ es.length * sz' := by rw [← Nat.succ_mul]; exact Nat.mul_le_mul_right sz' hi
      have hrun := run_storeAt (P := P) (w := w) hn e2 hvs (o := i * sz' + off) (by omega) hone
      refine ⟨_, he _ (by rw [hv]; exact hrun), ?_⟩
      rw [hput]
      refine h.upd hlk ((Ext.setRow w).mono fun q _ hq => by subst hq; exact hb) fun _ r4 => ?_
      have hei : es[i]? = some (elem es i) := by simp [elem, hi]
      obtain ⟨q1, q2⟩ := e5.get i _ hei
      have hnew := splice_read q1 hrn.pl off
      generalize hvsd : cur.toList = vs at *
      have hvsl : vs.length = es.length * sz' := hvl
      have hnl : ((List.take off (List.take sz' (List.drop (i * sz') vs))) ++ (a.eval v).cells.toList ++ List.drop (off + (a.eval v).cells.toList.length) (List.take sz' (List.drop (i * sz') vs))).length = sz' := by
        simp only [List.length_append, List.length_take, List.length_drop, Array.length_toList, hvs]
        omega
      have hset := RdE.set i hnew hnl e5 hi
      have hlist : vs.take (i * sz') ++ ((List.take off (List.take sz' (List.drop (i * sz') vs))) ++ (a.eval v).cells.toList ++ List.drop (off + (a.eval v).cells.toList.length) (List.take sz' (List.drop (i * sz') vs))) ++ vs.drop (i * sz' + sz')
          = vs.take (i * sz' + off) ++ (a.eval v).cells.toList ++ vs.drop (i * sz' + off + n) := by
        simp only [Array.length_toList, hvs, List.append_assoc]
        rw [List.take_take, Nat.min_eq_left (by omega), List.drop_take, List.drop_drop, List.take_add]
        simp only [List.append_assoc]
        congr 3
        have : vs.drop (i * sz' + off + n) = (vs.drop (i * sz' + off + n)).take (sz' - (off + n)) ++ (vs.drop (i * sz' + off + n)).drop (sz' - (off + n)) := (List.take_append_drop _ _).symm
        rw [this, List.drop_drop]
        congr 1
        · rw [Nat.add_assoc]
        · congr 1; omega
      rw [hlist] at hset
      refine ⟨b', _, E, hb, setRow_heap w b' cur _ E _ e2, ?_, by simpa using e4, by simpa using r4 _ _ _ hset⟩
      simp only [List.size_toArray, List.length_append, List.length_take, List.length_drop, Array.length_toList, hvs, List.length_set]; omega
    · rename_i sz' es hlk
      simp only [Option.some.injEq, Prod.mk.injEq, Eff.put.injEq] at hact
      obtain ⟨rfl, rfl, rfl⟩ := hact
      obtain ⟨rfl, hi, hl, hlen, hc⟩ := hφ
      rw [hk] at hr
      simp only [Rd] at hr
      obtain ⟨hlv, b, hb, hv⟩ := hr
      obtain ⟨vs, E, bs, e1, e2, e3, e4⟩ := h.ob k' _ hlk
      have hc' : (z.ev T s).un.cells.all D.cell' = true := by
        rw [List.all_eq_true] at hc ⊢
        exact fun d hd => cell_cell' (hc d hd)
      have hrc := h.cells hrv hc'
      have hone := h.ones hrc hc'
      have hcl := hrc.length
      have hvs : (a.eval v).cells.size = n := by simpa [hlen] using hcl
      obtain ⟨b1, b2, b3, rfl, q1, q2, q3⟩ := e2.at hi
      obtain ⟨w', hrun, hE, hown, hone'⟩ := OwnsR.store (P := P) (w := w) e1 hb hn hi hl hvs hone e3
      refine ⟨_, he _ (by rw [hv]; exact hrun), ?_⟩
      rw [hput]
      refine h.upd hlk (hE.mono fun q _ hq => by subst hq; exact hb) fun _ _ => ?_
      obtain ⟨b2', hs2, hsp⟩ := splice_readS q1 (hrc.open_ hc) off
      have hus : (List.take off (List.take sz' (List.drop (i * sz') vs)) ++ (a.eval v).cells.toList ++ List.drop (off + (a.eval v).cells.toList.length) (List.take sz' (List.drop (i * sz') vs))).length = sz' := by
        simp only [List.length_append, List.length_take, List.length_drop, Array.length_toList, hvs] at q2 ⊢; omega
      have hnew := q3 _ _ _ hus hsp
      refine ⟨_, E, b1 ++ (b2' ++ b3), by simpa using hown, RdSE.mono hE (fun x _ hx => by subst hx; exact .inr (.inl ⟨k', hlv, hb⟩)) (fun _ _ h => h) _ (by rw [storeCut (by simpa using e1.1) hi (by simpa using hvs) hl] at hnew; exact hnew) (fun x hx hxb => ?_), hone', e4.sub (sublist_mid hs2)⟩
      subst hxb
      exact h.owi x k' k' (e4.2 x ((sublist_mid hs2).subset hx)) hlv hb
    · rename_i sz' es i' e hlk
      simp only [Option.some.injEq, Prod.mk.injEq, Eff.put.injEq] at hact
      obtain ⟨rfl, rfl, rfl⟩ := hact
      obtain ⟨rfl, rfl, hl, hlen, hc⟩ := hφ
      rw [hk] at hr
      simp only [Rd] at hr
      obtain ⟨hlv, b, hb, hv⟩ := hr
      obtain ⟨hi, vs, E, bs, cs, e1, e2, e3, e4, e5⟩ := h.ob k' _ hlk
      have hrc := h.cells hrv hc
      have hone := h.ones hrc hc
      have hcl := hrc.length
      have hvs : (a.eval v).cells.size = n := by simpa [hlen] using hcl
      have hi' : i < (es.set i (List.replicate sz' D.any)).length := by simpa using hi
      obtain ⟨b1, b2, b3, rfl, q1, q2, q3⟩ := e2.at hi'
      obtain ⟨w', hrun, hE, hown, hone'⟩ := OwnsR.store (P := P) (w := w) e1 hb hn hi hl hvs hone e4
      refine ⟨_, he _ (by rw [hv]; exact hrun), ?_⟩
      rw [hput]
      have hEY : ∀ x, x < w.heap.size → x = b → PX X c x := fun x _ hx => by subst hx; exact .inr (.inl ⟨k', hlv, hb⟩)
      refine h.upd hlk (hE.mono fun q _ hq => by subst hq; exact hb) fun _ _ => ?_
      obtain ⟨cs', hs2, hsp⟩ := splice_readS e3 hrc off
      have hus : (List.take off (List.take sz' (List.drop (i * sz') vs)) ++ (a.eval v).cells.toList ++ List.drop (off + (a.eval v).cells.toList.length) (List.take sz' (List.drop (i * sz') vs))).length = sz' := by
        simp only [List.length_append, List.length_take, List.length_drop, Array.length_toList, hvs] at q2 ⊢; omega
      have hnew := q3 (List.replicate sz' D.any) _ [] hus (RdSL.of_closed (rdL_any _ _ hus))
      rw [List.set_set] at hnew
      have hcut := storeCut (vs := vs) (us := (a.eval v).cells.toList) (by simpa using e1.1) hi (by simpa using hvs) hl
      have hmid : (List.drop (i * sz') (vs.take (i * sz' + off) ++ (a.eval v).cells.toList ++ vs.drop (i * sz' + off + n))).take sz' = List.take off (List.take sz' (List.drop (i * sz') vs)) ++ (a.eval v).cells.toList ++ List.drop (off + (a.eval v).cells.toList.length) (List.take sz' (List.drop (i * sz') vs)) := by
        rw [← hcut]
        have hlv' : (vs.take (i * sz')).length = i * sz' := by
          have := e1.1
          have h2 : i * sz' ≤ es.length * sz' := Nat.mul_le_mul_right sz' (by omega)
          rw [List.length_take]; omega
        generalize hus' : List.take off (List.take sz' (List.drop (i * sz') vs)) ++ (a.eval v).cells.toList ++ List.drop (off + (a.eval v).cells.toList.length) (List.take sz' (List.drop (i * sz') vs)) = us at hus
        rw [List.append_assoc, List.drop_append, hlv', Nat.sub_self, List.drop_zero, List.drop_eq_nil_of_le (by omega), List.nil_append, ← hus, List.take_left]
      refine ⟨hi, _, E, b1 ++ ([] ++ b3), cs', hown, RdSE.mono hE hEY (fun _ _ h => h) _ (by rw [hcut] at hnew; exact hnew) (fun x hx hxb => ?_), ?_, hone', e5.sub ?_⟩
      · subst hxb
        refine h.owi x k' k' (e5.2 x (List.mem_append_left _ ?_)) hlv hb
        simp only [List.nil_append, List.mem_append] at hx ⊢
        exact hx.imp id .inr
      · rw [hmid]
        refine RdSL.mono hE hEY (fun _ _ h => h) _ (Cx.le_refl _) hsp (fun x hx hxb => ?_)
        subst hxb
        exact h.owi x k' k' (e5.2 x (List.mem_append_right _ (hs2.subset hx))) hlv hb
      · exact (sublist_mid (List.nil_sublist _)).append hs2
    · simp at hact
  · simp at hact
end
end Go.Vcg

namespace Go.Vcg
section
variable {P : Program} {T : Tb} {X : Nat → Prop} {Y : Env} {w0 w : World} {c : Cx} {s : St} {a : Act}

/-- Object k is no more. -/
def Cx.drop (c : Cx) (k : Nat) : Cx := { c with live := fun j => if j = k then false else c.live j }

mutual
theorem Rd.forget {Z : Nat → Prop} (k : Nat) : ∀ (d : D) {v : Value}, Rd Z w (some c) d v → Rd Z w (some (c.drop k)) (d.forget k) v
  | .int _ _, _, h => by simpa only [D.forget, Rd] using h
  | .bool _, _, h => by simpa only [D.forget, Rd] using h
  | .str _, _, h => by simpa only [D.forget, Rd] using h
  | .nilp, _, h => by simpa only [D.forget, Rd] using h
  | .nl _, _, h => by simpa only [D.forget, Rd] using h
  | .fz _ _, _, h => by simpa only [D.forget, Rd] using h
  | .ad _ _ _ _, _, h => by simpa only [D.forget, Rd] using h
  | .xad _, _, h => by simpa only [D.forget, Rd] using h
  | .any, _, _ => by simp only [D.forget, Rd]
  | .agg cs, _, h => by
    simp only [D.forget, Rd] at h ⊢
    obtain ⟨vs, h1, h2⟩ := h
    exact ⟨vs, h1, RdL.forget k cs h2⟩
  | .tup cs, _, h => by
    simp only [D.forget, Rd] at h ⊢
    obtain ⟨vs, h1, h2⟩ := h
    exact ⟨vs, h1, RdL.forget k cs h2⟩
  | .clo f cs, _, h => by
    simp only [D.forget, Rd] at h ⊢
    obtain ⟨vs, h1, h2⟩ := h
    exact ⟨vs, h1, RdL.forget k cs h2⟩
  | .wh g d, _, h => by
    simp only [D.forget, Rd] at h ⊢
    exact ⟨fun hg => Rd.forget k d (h.1 hg), h.2⟩
  | .own j off, _, h => by
    simp only [D.forget]
    split
    · simp only [Rd]
    · rename_i hj
      simp only [Rd] at h ⊢
      exact ⟨by simp [Cx.drop, hj, h.1], h.2⟩
  | .row j, _, h => by
    simp only [D.forget]
    split
    · simp only [Rd]
    · rename_i hj
      simp only [Rd] at h ⊢
      exact ⟨by simp [Cx.drop, hj, h.1], h.2⟩
  | .elr j sz i off, _, h => by
    simp only [D.forget]
    split
    · simp only [Rd]
    · rename_i hj
      simp only [Rd] at h ⊢
      exact ⟨by simp [Cx.drop, hj, h.1], h.2⟩
  | .vw j sz lo n cp, _, h => by
    simp only [D.forget]
    split
    · simp only [Rd]
    · rename_i hj
      simp only [Rd] at h ⊢
      exact ⟨by simp [Cx.drop, hj, h.1], h.2⟩
  | .ub, _, h => by simpa only [D.forget, Rd] using h
  | .err _, _, h => by simpa only [D.forget, Rd] using h
  | .sub _ _, _, h => by simp only [Rd] at h
  | .sbx _, _, h => by simp only [Rd] at h
theorem RdL.forget {Z : Nat → Prop} (k : Nat) : ∀ (ds : List D) {vs : List Value}, RdL Z w (some c) ds vs → RdL Z w (some (c.drop k)) (forgetL k ds) vs
  | [], _, h => by simpa only [forgetL, RdL] using h
  | d :: ds, _, h => by
    simp only [forgetL, RdL] at h ⊢
    obtain ⟨v, r, h1, h2, h3⟩ := h
    exact ⟨v, r, h1, Rd.forget k d h2, RdL.forget k ds h3⟩
end

theorem forgetL_map (k : Nat) : ∀ ds : List D, forgetL k ds = ds.map (D.forget k)
  | [] => rfl
  | d :: ds => by simp [forgetL, forgetL_map k ds]
theorem forget_isSub (k : Nat) (d : D) : (d.forget k).isSub = d.isSub := by
  cases d <;> simp only [D.forget] <;> (try split) <;> rfl
theorem forget_sub (k : Nat) (d : D) (h : d.isSub = true) : d.forget k = d := by
  cases d <;> first | (simp [D.isSub] at h; done) | simp only [D.forget]
theorem Ob.forget_mapc (k : Nat) (o : Ob) : o.forget k = o.mapc (D.forget k) := by
  cases o <;> simp [Ob.forget, Ob.mapc, forgetL_map]
/-- Object k by the name j, with what it has. -/
def Cx.moved (c : Cx) (k j : Nat) (vb : Option Nat) (v : Value) : Cx :=
  { ids := ((c.drop k).with j vb v).ids, rv := ((c.drop k).with j vb v).rv, live := ((c.drop k).with j vb v).live, ow := fun b => if c.ow b = some k then some j else c.ow b }

/-- A row goes over into another one: in its own block, or in a new one. -/
theorem Sat.move (h : Sat T X Y w0 c s a w) {k j : Nat} {p : Ob} (hk : s.lk k = some p) (hj : s.lk j = none ∨ j = k) (hjb : j < baseN) {w' : World} (hE : Ext (fun b => c.ids k = some b) w w') {v : Value} {vb : Option Nat}
    (hb : vb = c.ids k ∨ vb = none ∨ vb = some w.heap.size ∧ w.heap.size < w'.heap.size) (hv : v.cells = #[v] ∧ v.oneCell' = true) {o : Ob}
    (ho : (∀ x, x < w.heap.size → PX X (c.moved k j vb v) x → PX X c x) → (∀ (sz : Nat) (es : List (List D)) (vs : List Value), RdE (PX X c) w sz es vs → RdE (PX X (c.moved k j vb v)) w' sz es vs) → ObOK X w' (c.moved k j vb v) j o) :
    Sat T X Y w0 (c.moved k j vb v) { tm := forgetL k s.tm, ob := obPut j o (forgetO k (obDel k s.ob)) } a w' := by
  have hl : c.live k = true := by rw [h.live, hk]; rfl
  have hjl : ∀ i, (c.drop k).live i = true → i ≠ j := by
    intro i hi e
    subst e
    simp only [Cx.drop] at hi
    split at hi
    · cases hi
    · rename_i hne
      rcases hj with hj | hj
      · rw [h.live, hj] at hi; cases hi
      · exact hne hj
  have hdl : ∀ i, (c.drop k).live i = true → i ≠ k ∧ c.live i = true := by
    intro i hi
    simp only [Cx.drop] at hi
    split at hi
    · cases hi
    · exact ⟨‹_›, hi⟩
  have hle : Cx.le (some (c.drop k)) (some (c.moved k j vb v)) := by
    intro i hi
    have := hjl i hi
    simp [Cx.moved, Cx.with, this, hi]
  have hPX : ∀ x, x < w.heap.size → PX X (c.moved k j vb v) x → PX X c x := by
    intro x hx hp
    rcases hp with hp | ⟨i, hi, hix⟩ | ⟨i, hi⟩
    · exact .inl hp
    · by_cases hij : i = j
      · subst hij
        simp [Cx.moved, Cx.with] at hix
        rcases hb with hb | hb | ⟨hb, _⟩
        · exact .inr (.inl ⟨k, hl, hb ▸ hix⟩)
        · rw [hb] at hix; cases hix
        · rw [hb] at hix; simp at hix; omega
      · simp only [Cx.moved, Cx.with, if_neg hij] at hi hix
        exact .inr (.inl ⟨i, (hdl i hi).2, by simpa [Cx.drop] using hix⟩)
    · simp only [Cx.moved] at hi
      split at hi
      · exact .inr (.inr ⟨k, ‹_›⟩)
      · exact .inr (.inr ⟨i, hi⟩)
  have hEp : Ext (PX X c) w w' := hE.mono fun b _ hb => .inr (.inl ⟨k, hl, hb⟩)
  have r3 : ∀ (ds : List D) (vs : List Value), RdL (PX X c) w (some c) ds vs → RdL (PX X (c.moved k j vb v)) w' (some (c.moved k j vb v)) (forgetL k ds) vs :=
    fun ds vs hd => RdL.mono hEp (fun _ _ h => h) hPX _ hle (RdL.forget k ds hd)
  have r2 : ∀ (d : D) (u : Value), Rd (PX X c) w none d u → Rd (PX X (c.moved k j vb v)) w' none d u :=
    fun d u hd => Rd.mono hEp (fun _ _ h => h) hPX d (c := none) (c' := none) trivial hd
  have r4 : ∀ (sz : Nat) (es : List (List D)) (vs : List Value), RdE (PX X c) w sz es vs → RdE (PX X (c.moved k j vb v)) w' sz es vs :=
    fun sz es vs hd => RdE.mono hEp (fun _ _ h => h) hPX es hd
  have hlk : ∀ i, St.lk { tm := forgetL k s.tm, ob := obPut j o (forgetO k (obDel k s.ob)) } i = if i = j then some o else if i = k then none else (s.lk i).map (Ob.forget k) := by
    intro i
    unfold St.lk
    simp only
    rw [lk_put, lk_forget, lk_del]
    split
    · rfl
    · split <;> rfl
  refine ⟨?_, r3 _ _ h.tm, ?_, ?_, ?_, h.ext.trans' hE (fun b hb' hw => ?_), fun i => r2 _ _ (h.gl i), h.Xb, ?_, h.dfs, ?_, ?_, ?_⟩
  · intro i
    rw [hlk]
    by_cases hij : i = j
    · simp [Cx.moved, Cx.with, hij]
    · simp only [Cx.moved, Cx.with, if_neg hij, Cx.drop]
      split
      · simp
      · rw [h.live]; cases s.lk i <;> rfl
  · intro i q hq
    rw [hlk] at hq
    by_cases hij : i = j
    · subst hij
      simp at hq
      subst hq
      exact ho hPX r4
    · rw [if_neg hij] at hq
      split at hq
      · cases hq
      · rename_i hik
        cases hold : s.lk i with
        | none => rw [hold] at hq; cases hq
        | some q0 =>
          rw [hold] at hq
          simp at hq
          subst hq
          have hlj : c.live i = true := by rw [h.live, hold]; rfl
          have hne : ∀ b, c.ids i = some b → ¬ c.ids k = some b := fun b h1 h2 => hik (h.inj i k b hlj hl h1 h2)
          rw [Ob.forget_mapc]
          exact ObOK.tr (c' := c.moved k j vb v) (k' := i) (D.forget k) hE (fun b _ hb => .inr (.inl ⟨k, hl, hb⟩)) hPX (by simp [Cx.moved, Cx.with, hij, Cx.drop]) (by simp [Cx.moved, Cx.with, hij, Cx.drop]) hne (fun b hb => ⟨h.owi b i k hb hl, by simp [Cx.moved, hb, hik]⟩)
            (fun d u hd => Rd.mono hEp (fun _ _ h => h) hPX _ hle (Rd.forget k d hd)) (forget_isSub k) (forget_sub k) (h.ob i q0 hold)
  · intro i i' x hi hi' hix hix'
    by_cases hij : i = j <;> by_cases hij' : i' = j
    · rw [hij, hij']
    · subst hij
      simp [Cx.moved, Cx.with] at hix
      simp only [Cx.moved, Cx.with, if_neg hij'] at hi' hix'
      obtain ⟨n1, n2⟩ := hdl i' hi'
      have hx' : c.ids i' = some x := hix'
      rcases hb with hb | hb | ⟨hb, _⟩
      · exact absurd (h.inj i' k x n2 hl hx' (hb ▸ hix)) n1
      · rw [hb] at hix; cases hix
      · rw [hb] at hix; simp at hix
        have := h.id_lt n2 hx'; omega
    · subst hij'
      simp [Cx.moved, Cx.with] at hix'
      simp only [Cx.moved, Cx.with, if_neg hij] at hi hix
      obtain ⟨n1, n2⟩ := hdl i hi
      have hx' : c.ids i = some x := hix
      rcases hb with hb | hb | ⟨hb, _⟩
      · exact absurd (h.inj i k x n2 hl hx' (hb ▸ hix')) n1
      · rw [hb] at hix'; cases hix'
      · rw [hb] at hix'; simp at hix'
        have := h.id_lt n2 hx'; omega
    · simp only [Cx.moved, Cx.with, if_neg hij, if_neg hij'] at hi hi' hix hix'
      exact h.inj i i' x (hdl i hi).2 (hdl i' hi').2 hix hix'
  · intro i x hi hix
    by_cases hij : i = j
    · subst hij
      simp [Cx.moved, Cx.with] at hix
      rcases hb with hb | hb | ⟨hb, _⟩
      · exact h.fresh k x hl (hb ▸ hix)
      · rw [hb] at hix; cases hix
      · rw [hb] at hix; simp at hix
        have hs := h.ext.size
        exact ⟨.inl (by omega), h.Xb x (by omega)⟩
    · simp only [Cx.moved, Cx.with, if_neg hij] at hi hix
      exact h.fresh i x (hdl i hi).2 hix
  · rcases (h.fresh k b hl hb').1 with h1 | h1
    · exact .inl h1
    · exact .inr h1
  · intro i hi
    by_cases hij : i = j
    · subst hij; simpa [Cx.moved, Cx.with] using hv
    · simp only [Cx.moved, Cx.with, if_neg hij] at hi ⊢
      exact h.rv1 i (hdl i hi).2
  · intro i hi hli
    have hij : i ≠ j := by omega
    simp only [Cx.moved, Cx.with, if_neg hij] at hli ⊢
    exact h.base i hi (hdl i hli).2
  · intro b i hbi
    have hsome : ∃ i', c.ow b = some i' := by
      simp only [Cx.moved] at hbi
      split at hbi
      · exact ⟨k, ‹_›⟩
      · exact ⟨i, hbi⟩
    obtain ⟨i', hi'⟩ := hsome
    exact ⟨(h.owf b i' hi').1, (h.owf b i' hi').2.1, Nat.lt_of_lt_of_le (h.owf b i' hi').2.2 hE.size⟩
  · intro b i i2 hbi hi2 hid
    have hsome : ∃ i', c.ow b = some i' := by
      simp only [Cx.moved] at hbi
      split at hbi
      · exact ⟨k, ‹_›⟩
      · exact ⟨i, hbi⟩
    obtain ⟨i', hi'⟩ := hsome
    by_cases hij : i2 = j
    · subst hij
      simp [Cx.moved, Cx.with] at hid
      rcases hb with hb | hb | ⟨hb, _⟩
      · exact h.owi b i' k hi' hl (hb ▸ hid)
      · rw [hb] at hid; cases hid
      · rw [hb] at hid
        have := (h.owf b i' hi').2.2
        simp at hid; omega
    · simp only [Cx.moved, Cx.with, if_neg hij] at hi2 hid
      exact h.owi b i' i2 hi' (hdl i2 hi2).2 hid
end
end Go.Vcg

namespace Go.Vcg
section
variable {P : Program} {T : Tb} {X : Nat → Prop} {Y : Env} {w0 w : World} {c : Cx} {s : St} {a : Act}

/-! ### Rows that have rows of their own -/
/-- Object n is no more; its blocks, and its own one where it is kept, are object k's. -/
def Cx.gone (c : Cx) (n k : Nat) (keep : Bool) : Cx :=
  { ids := c.ids, rv := c.rv, live := fun j => if j = n then false else c.live j, ow := fun b => if c.ow b = some n ∨ (keep = true ∧ c.ids n = some b) then some k else c.ow b }

theorem Sat.gone (h : Sat T X Y w0 c s a w) {n : Nat} (hn : (s.lk n).isSome = true) (k : Nat) (keep : Bool) : Sat T X Y w0 (c.gone n k keep) ⟨forgetL n s.tm, forgetO n (obDel n s.ob)⟩ a w := by
  have hl : c.live n = true := by rw [h.live]; exact hn
  have hPX : ∀ b, PX X (c.gone n k keep) b → PX X c b := by
    intro b hp
    rcases hp with hp | ⟨i, hi, hix⟩ | ⟨i, hi⟩
    · exact .inl hp
    · simp only [Cx.gone] at hi hix
      split at hi
      · cases hi
      · exact .inr (.inl ⟨i, hi, hix⟩)
    · simp only [Cx.gone] at hi
      split at hi
      · rename_i hc
        rcases hc with hc | hc
        · exact .inr (.inr ⟨n, hc⟩)
        · exact .inr (.inl ⟨n, hl, hc.2⟩)
      · exact .inr (.inr ⟨i, hi⟩)
  have hle : Cx.le (some (c.drop n)) (some (c.gone n k keep)) := fun i hi => ⟨hi, rfl, rfl⟩
  have hE : Ext (fun _ => False) w w := Ext.refl _ _
  have hlk : ∀ i, St.lk ⟨forgetL n s.tm, forgetO n (obDel n s.ob)⟩ i = if i = n then none else (s.lk i).map (Ob.forget n) := by
    intro i
    unfold St.lk
    simp only
    rw [lk_forget, lk_del]
    split <;> rfl
  have hlv : ∀ i, (c.gone n k keep).live i = true → i ≠ n ∧ c.live i = true := by
    intro i hi
    simp only [Cx.gone] at hi
    split at hi
    · cases hi
    · exact ⟨‹_›, hi⟩
  have hdd : ∀ d v, Rd (PX X c) w (some c) d v → Rd (PX X (c.gone n k keep)) w (some (c.gone n k keep)) (d.forget n) v :=
    fun d v hd => Rd.mono hE (fun _ _ h => h.elim) (fun b _ hb => hPX b hb) _ hle (Rd.forget n d hd)
  have how' : ∀ b i, (c.gone n k keep).ow b = some i → (∃ i', c.ow b = some i') ∨ c.ids n = some b := by
    intro b i hb
    simp only [Cx.gone] at hb
    split at hb
    · rename_i hc
      rcases hc with hc | hc
      · exact .inl ⟨n, hc⟩
      · exact .inr hc.2
    · exact .inl ⟨i, hb⟩
  refine ⟨fun i => ?_, RdL.mono hE (fun _ _ h => h.elim) (fun b _ hb => hPX b hb) _ hle (RdL.forget n _ h.tm), fun i o ho => ?_, fun i j b hi hj => h.inj i j b (hlv i hi).2 (hlv j hj).2, fun i b hi => h.fresh i b (hlv i hi).2, h.ext, fun i => Rd.mono hE (fun _ _ h => h.elim) (fun b _ hb => hPX b hb) _ (c := none) (c' := none) trivial (h.gl i), h.Xb, fun i hi => h.rv1 i (hlv i hi).2, h.dfs, fun i hi hli => h.base i hi (hlv i hli).2, fun b i hb => ?_, fun b i j hb hj hid => ?_⟩
  · rw [hlk]
    simp only [Cx.gone]
    by_cases hi : i = n
    · rw [if_pos hi, if_pos hi]; rfl
    · rw [if_neg hi, if_neg hi, h.live]; cases s.lk i <;> rfl
  · rw [hlk] at ho
    split at ho
    · cases ho
    · rename_i hin
      cases hold : s.lk i with
      | none => rw [hold] at ho; cases ho
      | some q =>
        rw [hold] at ho
        simp at ho
        subst ho
        rw [Ob.forget_mapc]
        refine ObOK.tr (c' := c.gone n k keep) (k' := i) (D.forget n) hE (fun _ _ h => h.elim) (fun b _ hb => hPX b hb) rfl rfl (fun _ _ h => h) (fun b hb => ⟨id, ?_⟩) hdd (forget_isSub n) (forget_sub n) (h.ob i q hold)
        have h1 : ¬ (c.ow b = some n ∨ (keep = true ∧ c.ids n = some b)) := by
          rintro (h1 | ⟨_, h1⟩)
          · rw [hb] at h1; exact hin (Option.some.inj h1)
          · exact h.owi b i n hb hl h1
        show (if c.ow b = some n ∨ (keep = true ∧ c.ids n = some b) then some k else c.ow b) = some i
        rw [if_neg h1, hb]
  · rcases how' b i hb with ⟨i', hi'⟩ | hid
    · exact h.owf b i' hi'
    · exact ⟨(h.fresh n b hl hid).1, (h.fresh n b hl hid).2, h.id_lt hl hid⟩
  · obtain ⟨hjn, hjl⟩ := hlv j hj
    rcases how' b i hb with ⟨i', hi'⟩ | hidn
    · exact h.owi b i' j hi' hjl hid
    · exact hjn (h.inj j n b hjl hl hid hidn)

/-- A block that an object has becomes an object. -/
def Cx.shown (c : Cx) (n : Nat) (b : Option Nat) (v : Value) : Cx :=
  { ids := (c.with n b v).ids, rv := (c.with n b v).rv, live := (c.with n b v).live, ow := fun x => if b = some x then none else c.ow x }

theorem nodup_a {b1 b2 b3 cs : List Nat} (h : ((b1 ++ (b2 ++ b3)) ++ cs).Nodup) : (b1 ++ (cs ++ b3)).Nodup := by
  simp only [List.nodup_append, List.mem_append] at h ⊢
  grind
theorem nodup_b {b1 b2 b3 : List Nat} (h : (b1 ++ (b2 ++ b3)).Nodup) : ((b1 ++ ([] ++ b3)) ++ b2).Nodup := by
  simp only [List.nodup_append, List.mem_append, List.nil_append] at h ⊢
  grind

theorem RdSL.ctx {Z : Nat → Prop} {cx : Cx} {ds : List D} {vs : List Value} {bs : List Nat} (h : RdSL Z w none ds vs bs) : RdSL Z w (some cx) ds vs bs :=
  RdSL.mono (Ext.refl (fun _ => False) w) (fun _ _ h => h.elim) (fun _ _ h => h) ds (c := none) (c' := some cx) trivial h (fun _ _ h => h)
theorem RdSL.unctx {Z : Nat → Prop} {cx : Cx} : ∀ {ds : List D} {vs : List Value} {bs : List Nat}, RdSL Z w (some cx) ds vs bs → ds.all D.cellS = true → RdSL Z w none ds vs bs
  | [], _, _, h, _ => by simpa only [RdSL] using h
  | d :: ds, _, _, h, ha => by
    simp only [RdSL] at h ⊢
    simp only [List.all_cons, Bool.and_eq_true] at ha
    obtain ⟨v, r, b1, b2, rfl, h2, h3, rfl⟩ := h
    refine ⟨v, r, b1, b2, rfl, ?_, h3.unctx ha.2, rfl⟩
    cases d <;> first | (simpa only [RdS] using h2) | (simp only [RdS] at h2 ⊢; exact ⟨h2.1.open_ (by simpa [D.cellS] using ha.1), h2.2⟩)

/-- An element is looked at closer. -/
theorem Sat.hole (h : Sat T X Y w0 c s a w) {k sz i : Nat} {es : List (List D)} (hk : s.lk k = some (.rws sz es)) (hi : i < es.length) : Sat T X Y w0 c { s with ob := obPut k (.rwh sz es i (elem es i)) s.ob } a w := by
  refine h.upd hk ((Ext.refl (fun _ => False) w).mono fun _ _ h => h.elim) fun _ _ => ?_
  obtain ⟨vs, U, bs, e1, e2, e3, e4⟩ := h.ob k _ hk
  obtain ⟨b1, b2, b3, rfl, q1, q2, q3⟩ := e2.at hi
  have h0 := q3 (List.replicate sz D.any) _ [] q2 (RdSL.of_closed (rdL_any _ _ q2))
  have hvs : vs.take (i * sz) ++ (vs.drop (i * sz)).take sz ++ vs.drop (i * sz + sz) = vs := by
    rw [List.append_assoc, ← List.drop_drop, List.take_append_drop, List.take_append_drop]
  rw [hvs] at h0
  exact ⟨hi, vs, U, _, b2, e1, h0, q1.ctx, e3, nodup_b e4.1, fun b hb => e4.2 b (by simp only [List.nil_append, List.mem_append] at hb ⊢; grind)⟩

/-- A cell of the element becomes an object. -/
theorem Sat.show1 (h : Sat T X Y w0 c s a w) {k sz i o n sz' : Nat} {es es' : List (List D)} {e : List D} (hk : s.lk k = some (.rwh sz es i e)) (ho : e[o]? = some (.sub sz' es')) (hn : s.lk n = none) (hnb : n < baseN) :
    ∃ c', Sat T X Y w0 c' ⟨s.tm, obPut n (.row sz' es') (obPut k (.rwh sz es i (e.set o (.row n))) s.ob)⟩ a w := by
  obtain ⟨hi, vs, U, bs, cs, e1, e2, e3, e4, e5⟩ := h.ob k _ hk
  obtain ⟨c1, c2, c3, v, rfl, hv, q1, q2⟩ := e3.at ho
  simp only [RdS] at q1
  obtain ⟨b, V, us, g1, g2, g3, rfl⟩ := q1
  have hnl : c.live n = false := by rw [h.live, hn]; rfl
  have hkn : k ≠ n := fun e => by subst e; rw [hn] at hk; cases hk
  have hlk' : c.live k = true := by rw [h.live, hk]; rfl
  have hbo : ∀ x, b = some x → c.ow x = some k := fun x hx => e5.2 x (by simp [hx])
  have hE : Ext (fun _ => False) w w := Ext.refl _ _
  have hPX : ∀ x, PX X (c.shown n b v) x → PX X c x := by
    intro x hp
    rcases hp with hp | ⟨j, hj, hjx⟩ | ⟨j, hj⟩
    · exact .inl hp
    · by_cases hjn : j = n
      · subst hjn
        simp [Cx.shown, Cx.with] at hjx
        exact .inr (.inr ⟨k, hbo x hjx⟩)
      · simp [Cx.shown, Cx.with, hjn] at hj hjx
        exact .inr (.inl ⟨j, hj, hjx⟩)
    · simp only [Cx.shown] at hj
      split at hj
      · cases hj
      · exact .inr (.inr ⟨j, hj⟩)
  have hle : Cx.le (some c) (some (c.shown n b v)) := by
    intro j hj
    have : j ≠ n := fun e => by subst e; rw [hnl] at hj; cases hj
    simp [Cx.shown, Cx.with, this, hj]
  have hd : ∀ d v', Rd (PX X c) w (some c) d v' → Rd (PX X (c.shown n b v)) w (some (c.shown n b v)) d v' := fun d v' hd => Rd.mono hE (fun _ _ h => h.elim) (fun x _ hx => hPX x hx) d hle hd
  have hlk : ∀ j, St.lk ⟨s.tm, obPut n (.row sz' es') (obPut k (.rwh sz es i (e.set o (.row n))) s.ob)⟩ j = if j = n then some (.row sz' es') else if j = k then some (.rwh sz es i (e.set o (.row n))) else s.lk j := fun j => by
    unfold St.lk
    simp only
    rw [lk_put, lk_put]
  have hlv : ∀ j, (c.shown n b v).live j = true → j = n ∨ (j ≠ n ∧ c.live j = true ∧ (c.shown n b v).ids j = c.ids j ∧ (c.shown n b v).rv j = c.rv j) := by
    intro j hj
    by_cases hjn : j = n
    · exact .inl hjn
    · simp [Cx.shown, Cx.with, hjn] at hj
      exact .inr ⟨hjn, hj, by simp [Cx.shown, Cx.with, hjn], by simp [Cx.shown, Cx.with, hjn]⟩
  have hidn : (c.shown n b v).ids n = b := by simp [Cx.shown, Cx.with]
  have hrvn : (c.shown n b v).rv n = v := by simp [Cx.shown, Cx.with]
  refine ⟨c.shown n b v, fun j => ?_, RdL.mono hE (fun _ _ h => h.elim) (fun x _ hx => hPX x hx) _ hle h.tm, fun j q hq => ?_, fun j j' x hj hj' hx hx' => ?_, fun j x hj hx => ?_, h.ext, fun j => Rd.mono hE (fun _ _ h => h.elim) (fun x _ hx => hPX x hx) _ (c := none) (c' := none) trivial (h.gl j), h.Xb, fun j hj => ?_, h.dfs, fun j hj hl => ?_, fun x j hx => ?_, fun x j j' hx hj' hid => ?_⟩
  · rw [hlk]
    by_cases hjn : j = n
    · simp [Cx.shown, Cx.with, hjn]
    · rw [if_neg hjn]
      simp only [Cx.shown, Cx.with, if_neg hjn]
      by_cases hjk : j = k
      · rw [if_pos hjk, hjk, hlk']; rfl
      · rw [if_neg hjk, h.live]
  · rw [hlk] at hq
    by_cases hjn : j = n
    · subst hjn
      simp at hq
      subst hq
      exact ⟨us, V, by rw [hidn, hrvn]; exact g1, RdE.mono hE (fun _ _ h => h.elim) (fun x _ hx => hPX x hx) _ g2, g3⟩
    · rw [if_neg hjn] at hq
      by_cases hjk : j = k
      · subst hjk
        simp at hq
        subst hq
        have hnd := e5.1
        have how' : ∀ x, x ∈ bs ++ (c1 ++ c3) → (c.shown n b v).ow x = some j := by
          intro x hx
          have hx1 : c.ow x = some j := e5.2 x (by simp only [List.mem_append] at hx ⊢; grind)
          have hxb : b ≠ some x := by
            intro hxb
            subst hxb
            simp only [List.nodup_append, List.mem_append, Option.toList_some, List.mem_singleton] at hnd hx
            grind
          show (if b = some x then none else c.ow x) = some j
          rw [if_neg hxb, hx1]
        refine ⟨hi, vs, U, bs, c1 ++ ([] ++ c3), by simpa [Cx.shown, Cx.with, hjn] using e1, RdSE.mono hE (fun _ _ h => h.elim) (fun x _ hx => hPX x hx) _ e2 (fun _ _ h => h), ?_, e4, ?_, fun x hx => how' x (by simpa using hx)⟩
        · have hcell : RdS (PX X (c.shown n b v)) w (some (c.shown n b v)) (.row n) v [] := by
            rw [RdS.of rfl]
            simp only [Rd]
            exact ⟨⟨by simp [Cx.shown, Cx.with], hrvn.symm⟩, trivial⟩
          have e3' := RdSL.mono hE (fun _ _ h => h.elim) (fun x _ hx => hPX x hx) _ hle (q2 .any [] ((RdS.of rfl).2 ⟨by simp only [Rd], rfl⟩)) (fun _ _ h => h)
          have hlt : o < e.length := (List.getElem?_eq_some_iff.1 ho).1
          obtain ⟨d1, d2, d3, v2, hde, hv2, r1, r2⟩ := e3'.at (o := o) (d := .any) (by simp [hlt])
          obtain rfl : v2 = v := Option.some.inj (hv2.symm.trans hv)
          obtain rfl : d2 = [] := ((RdS.of rfl).1 r1).2
          have h1 := r2 (.row n) [] hcell
          rw [List.set_set] at h1
          rw [hde]; exact h1
        · simp only [List.nodup_append, List.mem_append, List.nil_append] at hnd ⊢
          grind
      · rw [if_neg hjk] at hq
        have hold := ObOK.tr (c' := c.shown n b v) (k' := j) id hE (fun _ _ h => h.elim) (fun x _ hx => hPX x hx) (by simp [Cx.shown, Cx.with, hjn]) (by simp [Cx.shown, Cx.with, hjn]) (fun _ _ h => h) (fun x hx => ⟨id, by
          have hxb : b ≠ some x := fun hxb => by
            have := hbo x hxb
            rw [hx] at this
            exact hjk (Option.some.inj this)
          show (if b = some x then none else c.ow x) = some j
          rw [if_neg hxb, hx]⟩) (fun d u hd' => hd d u hd') (fun _ => rfl) (fun _ _ => rfl) (h.ob j q hq)
        rwa [Ob.mapc_id] at hold
  · rcases hlv j hj with rfl | ⟨hjn, h1, h2, _⟩ <;> rcases hlv j' hj' with rfl | ⟨hjn', h1', h2', _⟩
    · rfl
    · rw [hidn] at hx
      rw [h2'] at hx'
      exact absurd hx' (h.owi x k j' (hbo x hx) h1')
    · rw [hidn] at hx'
      rw [h2] at hx
      exact absurd hx (h.owi x k j (hbo x hx') h1)
    · rw [h2] at hx
      rw [h2'] at hx'
      exact h.inj j j' x h1 h1' hx hx'
  · rcases hlv j hj with rfl | ⟨hjn, h1, h2, _⟩
    · rw [hidn] at hx
      obtain ⟨f1, f2, _⟩ := h.owf x k (hbo x hx)
      exact ⟨f1, f2⟩
    · rw [h2] at hx
      exact h.fresh j x h1 hx
  · rcases hlv j hj with rfl | ⟨hjn, h1, _, h3⟩
    · rw [hrvn]; exact g1.one
    · rw [h3]; exact h.rv1 j h1
  · rcases hlv j hl with rfl | ⟨hjn, h1, h2, h3⟩
    · omega
    · rw [h2, h3]; exact h.base j hj h1
  · simp only [Cx.shown] at hx
    split at hx
    · cases hx
    · exact h.owf x j hx
  · simp only [Cx.shown] at hx
    split at hx
    · cases hx
    · rename_i hxb
      rcases hlv j' hj' with rfl | ⟨hjn, h1, h2, _⟩
      · rw [hidn] at hid; exact hxb hid
      · rw [h2] at hid; exact h.owi x j j' hx h1 hid

/-- An object becomes a cell of the element again. -/
theorem Sat.hide1 (h : Sat T X Y w0 c s a w) {k sz i o n sz' : Nat} {es es' : List (List D)} {e : List D} (hk : s.lk k = some (.rwh sz es i e)) (ho : e[o]? = some (.row n)) (hn : s.lk n = some (.row sz' es')) (hnk : n ≠ k) :
    ∃ c', Sat T X Y w0 c' ⟨forgetL n s.tm, obPut k (.rwh sz es i (forgetL n (e.set o (.sub sz' es')))) (forgetO n (obDel n s.ob))⟩ a w := by
  have hg := h.gone (n := n) (by rw [hn]; rfl) k true
  have hln : c.live n = true := by rw [h.live, hn]; rfl
  have hlk' : St.lk ⟨forgetL n s.tm, forgetO n (obDel n s.ob)⟩ k = some (.rwh sz es i (forgetL n e)) := by
    unfold St.lk
    simp only
    rw [lk_forget, lk_del, if_neg (fun e => hnk e.symm)]
    have : s.ob.lookup k = some (.rwh sz es i e) := hk
    rw [this]; rfl
  refine ⟨_, hg.upd hlk' ((Ext.refl (fun _ => False) w).mono fun _ _ h => h.elim) fun _ _ => ?_⟩
  obtain ⟨hi, vs, U, bs, cs, e1, e2, e3, e4, e5⟩ := h.ob k _ hk
  obtain ⟨us, V, g1, g2, g3⟩ := h.ob n _ hn
  obtain ⟨c1, c2, c3, v, rfl, hv, q1, q2⟩ := e3.at ho
  rw [RdS.of rfl] at q1
  obtain ⟨q1, rfl⟩ := q1
  simp only [Rd] at q1
  obtain ⟨_, rfl⟩ := q1
  have hE : Ext (fun _ => False) w w := Ext.refl _ _
  have hPX : ∀ b, b < w.heap.size → PX X (c.gone n k true) b → PX X c b := by
    intro b _ hp
    rcases hp with hp | ⟨j, hj, hjx⟩ | ⟨j, hj⟩
    · exact .inl hp
    · simp only [Cx.gone] at hj hjx
      split at hj
      · cases hj
      · exact .inr (.inl ⟨j, hj, hjx⟩)
    · simp only [Cx.gone] at hj
      split at hj
      · rename_i hc
        rcases hc with hc | hc
        · exact .inr (.inr ⟨n, hc⟩)
        · exact .inr (.inl ⟨n, hln, hc.2⟩)
      · exact .inr (.inr ⟨j, hj⟩)
  have hle : Cx.le (some (c.drop n)) (some (c.gone n k true)) := fun i hi => ⟨hi, rfl, rfl⟩
  have hd : ∀ d v, Rd (PX X c) w (some c) d v → Rd (PX X (c.gone n k true)) w (some (c.gone n k true)) (d.forget n) v :=
    fun d v hd => Rd.mono hE (fun _ _ h => h.elim) hPX _ hle (Rd.forget n d hd)
  have h1 := (q2 .any [] ((RdS.of rfl).2 ⟨by simp only [Rd], rfl⟩)).mapF hE (fun _ _ h => h.elim) hPX hd (forget_isSub n) (forget_sub n) (fun _ _ h => h)
  have hlt : o < e.length := (List.getElem?_eq_some_iff.1 ho).1
  obtain ⟨d1, d2, d3, v2, hde, hv2, r1, r2⟩ := h1.at (o := o) (d := .any) (by simp [hlt, D.forget])
  obtain rfl : v2 = c.rv n := Option.some.inj (hv2.symm.trans hv)
  obtain rfl : d2 = [] := ((RdS.of rfl).1 r1).2
  have h2 := r2 (.sub sz' es') (c.ids n).toList (by
    simp only [RdS]
    exact ⟨c.ids n, V, us, g1, RdE.mono hE (fun _ _ h => h.elim) hPX _ g2, g3, rfl⟩)
  have hlist : forgetL n (e.set o (.sub sz' es')) = ((e.set o .any).map (D.forget n)).set o (.sub sz' es') := by
    rw [forgetL_map, List.map_set, List.map_set, List.set_set]; rfl
  rw [hlist]
  have hnd := e5.1
  have how : ∀ x, x ∈ bs ++ (d1 ++ d3) → c.ow x = some k := by
    intro x hx
    refine e5.2 x ?_
    have : x ∈ c1 ++ ([] ++ c3) ↔ x ∈ d1 ++ ([] ++ d3) := by rw [hde]
    simp only [List.mem_append, List.nil_append] at this hx ⊢
    grind
  refine ⟨hi, vs, U, bs, d1 ++ ((c.ids n).toList ++ d3), e1, RdSE.mono hE (fun _ _ h => h.elim) hPX _ e2 (fun _ _ h => h), h2, e4, ?_, fun x hx => ?_⟩
  · rw [hde] at hnd
    cases hid : c.ids n with
    | none => simpa using hnd
    | some g =>
      have hg' : ∀ x ∈ bs ++ (d1 ++ d3), x ≠ g := fun x hx hxg => by
        subst hxg
        exact h.owi x k n (how x hx) hln hid
      simp only [Option.toList_some, List.nodup_append, List.mem_append, List.nil_append, List.mem_singleton, List.nodup_cons] at hnd hg' ⊢
      grind
  · show (if c.ow x = some n ∨ (true = true ∧ c.ids n = some x) then some k else c.ow x) = some k
    split
    · rfl
    · rename_i hnot
      refine how x ?_
      simp only [List.mem_append, Option.mem_toList] at hx ⊢
      grind

/-- A block that an object has becomes an object, with the blocks that it has itself. -/
def Cx.shownB (c : Cx) (n g : Nat) (v : Value) (bs : List Nat) : Cx :=
  { ids := (c.with n (some g) v).ids, rv := (c.with n (some g) v).rv, live := (c.with n (some g) v).live, ow := fun x => if g = x then none else if x ∈ bs then some n else c.ow x }
theorem nodup_c {bs c1 c3 bs' : List Nat} {g : Nat} (h : (bs ++ (c1 ++ (g :: bs' ++ c3))).Nodup) : (bs ++ (c1 ++ ([] ++ c3))).Nodup ∧ bs'.Nodup ∧ g ∉ bs' ∧ (∀ x ∈ bs ++ (c1 ++ c3), x ≠ g ∧ x ∉ bs') := by
  simp only [List.nodup_append, List.mem_append, List.nil_append, List.cons_append, List.mem_cons, List.nodup_cons] at h ⊢
  grind

/-- A cell of the element, a struct that is pointed to, becomes an object. -/
theorem Sat.show2 (h : Sat T X Y w0 c s a w) {k sz i o n : Nat} {es : List (List D)} {e cs : List D} (hk : s.lk k = some (.rwh sz es i e)) (ho : e[o]? = some (.sbx cs)) (hn : s.lk n = none) (hnb : n < baseN) :
    ∃ c', Sat T X Y w0 c' ⟨s.tm, obPut n (.rws cs.length [cs]) (obPut k (.rwh sz es i (e.set o (.elr n cs.length 0 0))) s.ob)⟩ a w := by
  obtain ⟨hi, vs, U, bs, ccs, e1, e2, e3, e4, e5⟩ := h.ob k _ hk
  obtain ⟨c1, c2, c3, v, rfl, hv, q1, q2⟩ := e3.at ho
  simp only [RdS] at q1
  obtain ⟨g, V, v2, us, bs', rfl, g1, g2, g3, rfl⟩ := q1
  obtain ⟨nd1, nd2, nd3, nd4⟩ := nodup_c e5.1
  have hnl : c.live n = false := by rw [h.live, hn]; rfl
  have hkn : k ≠ n := fun e => by subst e; rw [hn] at hk; cases hk
  have hlk' : c.live k = true := by rw [h.live, hk]; rfl
  have hbo : c.ow g = some k := e5.2 g (by simp)
  have hbo' : ∀ x ∈ bs', c.ow x = some k := fun x hx => e5.2 x (by simp [hx])
  have hE : Ext (fun _ => False) w w := Ext.refl _ _
  have hPX : ∀ x, PX X (c.shownB n g v2 bs') x → PX X c x := by
    intro x hp
    rcases hp with hp | ⟨j, hj, hjx⟩ | ⟨j, hj⟩
    · exact .inl hp
    · by_cases hjn : j = n
      · subst hjn
        simp [Cx.shownB, Cx.with] at hjx
        subst hjx
        exact .inr (.inr ⟨k, hbo⟩)
      · simp [Cx.shownB, Cx.with, hjn] at hj hjx
        exact .inr (.inl ⟨j, hj, hjx⟩)
    · simp only [Cx.shownB] at hj
      split at hj
      · cases hj
      · split at hj
        · rename_i hx; exact .inr (.inr ⟨k, hbo' x hx⟩)
        · exact .inr (.inr ⟨j, hj⟩)
  have hle : Cx.le (some c) (some (c.shownB n g v2 bs')) := by
    intro j hj
    have : j ≠ n := fun e => by subst e; rw [hnl] at hj; cases hj
    simp [Cx.shownB, Cx.with, this, hj]
  have hd : ∀ d v', Rd (PX X c) w (some c) d v' → Rd (PX X (c.shownB n g v2 bs')) w (some (c.shownB n g v2 bs')) d v' := fun d v' hd => Rd.mono hE (fun _ _ h => h.elim) (fun x _ hx => hPX x hx) d hle hd
  have hlk : ∀ j, St.lk ⟨s.tm, obPut n (.rws cs.length [cs]) (obPut k (.rwh sz es i (e.set o (.elr n cs.length 0 0))) s.ob)⟩ j = if j = n then some (.rws cs.length [cs]) else if j = k then some (.rwh sz es i (e.set o (.elr n cs.length 0 0))) else s.lk j := fun j => by
    unfold St.lk
    simp only
    rw [lk_put, lk_put]
  have hlv : ∀ j, (c.shownB n g v2 bs').live j = true → j = n ∨ (j ≠ n ∧ c.live j = true ∧ (c.shownB n g v2 bs').ids j = c.ids j ∧ (c.shownB n g v2 bs').rv j = c.rv j) := by
    intro j hj
    by_cases hjn : j = n
    · exact .inl hjn
    · simp [Cx.shownB, Cx.with, hjn] at hj
      exact .inr ⟨hjn, hj, by simp [Cx.shownB, Cx.with, hjn], by simp [Cx.shownB, Cx.with, hjn]⟩
  have hidn : (c.shownB n g v2 bs').ids n = some g := by simp [Cx.shownB, Cx.with]
  have hrvn : (c.shownB n g v2 bs').rv n = v2 := by simp [Cx.shownB, Cx.with]
  have how : ∀ x j, (c.shownB n g v2 bs').ow x = some j → x ≠ g ∧ ((x ∈ bs' ∧ j = n) ∨ (x ∉ bs' ∧ c.ow x = some j)) := by
    intro x j hx
    simp only [Cx.shownB] at hx
    split at hx
    · cases hx
    · rename_i hxg
      split at hx
      · rename_i hxb; exact ⟨fun e => hxg e.symm, .inl ⟨hxb, (Option.some.inj hx).symm⟩⟩
      · rename_i hxb; exact ⟨fun e => hxg e.symm, .inr ⟨hxb, hx⟩⟩
  refine ⟨c.shownB n g v2 bs', fun j => ?_, RdL.mono hE (fun _ _ h => h.elim) (fun x _ hx => hPX x hx) _ hle h.tm, fun j q hq => ?_, fun j j' x hj hj' hx hx' => ?_, fun j x hj hx => ?_, h.ext, fun j => Rd.mono hE (fun _ _ h => h.elim) (fun x _ hx => hPX x hx) _ (c := none) (c' := none) trivial (h.gl j), h.Xb, fun j hj => ?_, h.dfs, fun j hj hl => ?_, fun x j hx => ?_, fun x j j' hx hj' hid => ?_⟩
  · rw [hlk]
    by_cases hjn : j = n
    · simp [Cx.shownB, Cx.with, hjn]
    · rw [if_neg hjn]
      simp only [Cx.shownB, Cx.with, if_neg hjn]
      by_cases hjk : j = k
      · rw [if_pos hjk, hjk, hlk']; rfl
      · rw [if_neg hjk, h.live]
  · rw [hlk] at hq
    by_cases hjn : j = n
    · subst hjn
      simp at hq
      subst hq
      refine ⟨us, V, bs', by rw [hidn, hrvn]; exact g1, ?_, g3, nd2, fun x hx => ?_⟩
      · simp only [RdSE]
        refine ⟨us, [], bs', [], by simp, ?_, RdSL.mono hE (fun _ _ h => h.elim) (fun x _ hx => hPX x hx) _ (c := none) (c' := none) trivial g2 (fun _ _ h => h), ⟨rfl, rfl⟩, by simp⟩
        have := g1.1; omega
      · show (if g = x then none else if x ∈ bs' then some j else c.ow x) = some j
        rw [if_neg (fun e => nd3 (by rw [e]; exact hx)), if_pos hx]
    · rw [if_neg hjn] at hq
      by_cases hjk : j = k
      · subst hjk
        simp at hq
        subst hq
        have how' : ∀ x, x ∈ bs ++ (c1 ++ c3) → (c.shownB n g v2 bs').ow x = some j := by
          intro x hx
          have hx1 : c.ow x = some j := e5.2 x (by simp only [List.mem_append, List.cons_append, List.mem_cons] at hx ⊢; grind)
          obtain ⟨m1, m2⟩ := nd4 x hx
          show (if g = x then none else if x ∈ bs' then some n else c.ow x) = some j
          rw [if_neg (fun e => m1 e.symm), if_neg m2, hx1]
        refine ⟨hi, vs, U, bs, c1 ++ ([] ++ c3), by simpa [Cx.shownB, Cx.with, hjn] using e1, RdSE.mono hE (fun _ _ h => h.elim) (fun x _ hx => hPX x hx) _ e2 (fun _ _ h => h), ?_, e4, nd1, fun x hx => how' x (by simpa using hx)⟩
        have hcell : RdS (PX X (c.shownB n g v2 bs')) w (some (c.shownB n g v2 bs')) (.elr n cs.length 0 0) (.pointer (some ⟨g, 0, none⟩)) [] := by
          rw [RdS.of rfl]
          simp only [Rd]
          exact ⟨⟨by simp [Cx.shownB, Cx.with], g, hidn, by simp⟩, trivial⟩
        have e3' := RdSL.mono hE (fun _ _ h => h.elim) (fun x _ hx => hPX x hx) _ hle (q2 .any [] ((RdS.of rfl).2 ⟨by simp only [Rd], rfl⟩)) (fun _ _ h => h)
        have hlt : o < e.length := (List.getElem?_eq_some_iff.1 ho).1
        obtain ⟨d1, d2, d3, v3, hde, hv2, r1, r2⟩ := e3'.at (o := o) (d := .any) (by simp [hlt])
        obtain rfl : v3 = _ := Option.some.inj (hv2.symm.trans hv)
        obtain rfl : d2 = [] := ((RdS.of rfl).1 r1).2
        have h1 := r2 (.elr n cs.length 0 0) [] hcell
        rw [List.set_set] at h1
        rw [hde]; exact h1
      · rw [if_neg hjk] at hq
        have hold := ObOK.tr (c' := c.shownB n g v2 bs') (k' := j) id hE (fun _ _ h => h.elim) (fun x _ hx => hPX x hx) (by simp [Cx.shownB, Cx.with, hjn]) (by simp [Cx.shownB, Cx.with, hjn]) (fun _ _ h => h) (fun x hx => ⟨id, by
          have hxb : g ≠ x := fun hxb => by
            subst hxb
            rw [hx] at hbo
            exact hjk (Option.some.inj hbo)
          have hxb' : x ∉ bs' := fun hxb => by
            have := hbo' x hxb
            rw [hx] at this
            exact hjk (Option.some.inj this)
          show (if g = x then none else if x ∈ bs' then some n else c.ow x) = some j
          rw [if_neg hxb, if_neg hxb', hx]⟩) (fun d u hd' => hd d u hd') (fun _ => rfl) (fun _ _ => rfl) (h.ob j q hq)
        rwa [Ob.mapc_id] at hold
  · rcases hlv j hj with rfl | ⟨hjn, h1, h2, _⟩ <;> rcases hlv j' hj' with rfl | ⟨hjn', h1', h2', _⟩
    · rfl
    · rw [hidn] at hx
      rw [h2'] at hx'
      obtain rfl := Option.some.inj hx
      exact absurd hx' (h.owi g k j' hbo h1')
    · rw [hidn] at hx'
      rw [h2] at hx
      obtain rfl := Option.some.inj hx'
      exact absurd hx (h.owi g k j hbo h1)
    · rw [h2] at hx
      rw [h2'] at hx'
      exact h.inj j j' x h1 h1' hx hx'
  · rcases hlv j hj with rfl | ⟨hjn, h1, h2, _⟩
    · rw [hidn] at hx
      obtain rfl := Option.some.inj hx
      obtain ⟨f1, f2, _⟩ := h.owf g k hbo
      exact ⟨f1, f2⟩
    · rw [h2] at hx
      exact h.fresh j x h1 hx
  · rcases hlv j hj with rfl | ⟨hjn, h1, _, h3⟩
    · rw [hrvn]; exact g1.one
    · rw [h3]; exact h.rv1 j h1
  · rcases hlv j hl with rfl | ⟨hjn, h1, h2, h3⟩
    · omega
    · rw [h2, h3]; exact h.base j hj h1
  · rcases (how x j hx).2 with ⟨hxb, _⟩ | ⟨_, hxo⟩
    · exact h.owf x k (hbo' x hxb)
    · exact h.owf x j hxo
  · obtain ⟨hxg, hx2⟩ := how x j hx
    rcases hlv j' hj' with rfl | ⟨hjn, h1, h2, _⟩
    · rw [hidn] at hid; exact hxg (Option.some.inj hid).symm
    · rw [h2] at hid
      rcases hx2 with ⟨hxb, _⟩ | ⟨_, hxo⟩
      · exact h.owi x k j' (hbo' x hxb) h1 hid
      · exact h.owi x j j' hxo h1 hid

/-- An object that is pointed to becomes a cell of the element again. -/
theorem Sat.hide2 (h : Sat T X Y w0 c s a w) {k sz i o n : Nat} {es : List (List D)} {e cs : List D} (hk : s.lk k = some (.rwh sz es i e)) (ho : e[o]? = some (.elr n cs.length 0 0)) (hn : s.lk n = some (.rws cs.length [cs])) (hnk : n ≠ k) :
    ∃ c', Sat T X Y w0 c' ⟨forgetL n s.tm, obPut k (.rwh sz es i (forgetL n (e.set o (.sbx cs)))) (forgetO n (obDel n s.ob))⟩ a w := by
  have hg := h.gone (n := n) (by rw [hn]; rfl) k true
  have hln : c.live n = true := by rw [h.live, hn]; rfl
  have hlk' : St.lk ⟨forgetL n s.tm, forgetO n (obDel n s.ob)⟩ k = some (.rwh sz es i (forgetL n e)) := by
    unfold St.lk
    simp only
    rw [lk_forget, lk_del, if_neg (fun e => hnk e.symm)]
    have : s.ob.lookup k = some (.rwh sz es i e) := hk
    rw [this]; rfl
  refine ⟨_, hg.upd hlk' ((Ext.refl (fun _ => False) w).mono fun _ _ h => h.elim) fun _ _ => ?_⟩
  obtain ⟨hi, vs, U, bs, ccs, e1, e2, e3, e4, e5⟩ := h.ob k _ hk
  obtain ⟨us, V, bs', g1, g2, g3, g4⟩ := h.ob n _ hn
  obtain ⟨c1, c2, c3, v, rfl, hv, q1, q2⟩ := e3.at ho
  rw [RdS.of rfl] at q1
  obtain ⟨q1, rfl⟩ := q1
  simp only [Rd] at q1
  obtain ⟨_, b, hb, rfl⟩ := q1
  have hE : Ext (fun _ => False) w w := Ext.refl _ _
  have hPX : ∀ b, b < w.heap.size → PX X (c.gone n k true) b → PX X c b := by
    intro b _ hp
    rcases hp with hp | ⟨j, hj, hjx⟩ | ⟨j, hj⟩
    · exact .inl hp
    · simp only [Cx.gone] at hj hjx
      split at hj
      · cases hj
      · exact .inr (.inl ⟨j, hj, hjx⟩)
    · simp only [Cx.gone] at hj
      split at hj
      · rename_i hc
        rcases hc with hc | hc
        · exact .inr (.inr ⟨n, hc⟩)
        · exact .inr (.inl ⟨n, hln, hc.2⟩)
      · exact .inr (.inr ⟨j, hj⟩)
  have hle : Cx.le (some (c.drop n)) (some (c.gone n k true)) := fun i hi => ⟨hi, rfl, rfl⟩
  have hd : ∀ d v, Rd (PX X c) w (some c) d v → Rd (PX X (c.gone n k true)) w (some (c.gone n k true)) (d.forget n) v :=
    fun d v hd => Rd.mono hE (fun _ _ h => h.elim) hPX _ hle (Rd.forget n d hd)
  have h1 := (q2 .any [] ((RdS.of rfl).2 ⟨by simp only [Rd], rfl⟩)).mapF hE (fun _ _ h => h.elim) hPX hd (forget_isSub n) (forget_sub n) (fun _ _ h => h)
  have hlt : o < e.length := (List.getElem?_eq_some_iff.1 ho).1
  obtain ⟨d1, d2, d3, v2, hde, hv2, r1, r2⟩ := h1.at (o := o) (d := .any) (by simp [hlt, D.forget])
  obtain rfl : v2 = _ := Option.some.inj (hv2.symm.trans hv)
  obtain rfl : d2 = [] := ((RdS.of rfl).1 r1).2
  simp only [RdSE] at g2
  obtain ⟨us1, us2, b1, b2, rfl, hl1, g5, ⟨rfl, rfl⟩, rfl⟩ := g2
  rw [List.append_nil] at g1 g3 g4
  rw [hb] at g1
  have h2 := r2 (.sbx cs) (b :: b1) (by
    simp only [RdS]
    exact ⟨b, V, _, us1, b1, by simp, g1, RdSL.mono hE (fun _ _ h => h.elim) hPX _ (c := none) (c' := none) trivial g5 (fun _ _ h => h), g3, rfl⟩)
  have hlist : forgetL n (e.set o (.sbx cs)) = ((e.set o .any).map (D.forget n)).set o (.sbx cs) := by
    rw [forgetL_map, List.map_set, List.map_set, List.set_set]; rfl
  rw [hlist]
  have hnd := e5.1
  have how : ∀ x, x ∈ bs ++ (d1 ++ d3) → c.ow x = some k := by
    intro x hx
    refine e5.2 x ?_
    have : x ∈ c1 ++ ([] ++ c3) ↔ x ∈ d1 ++ ([] ++ d3) := by rw [hde]
    simp only [List.mem_append, List.nil_append] at this hx ⊢
    grind
  have hbn : b ∉ b1 := fun hx => h.owi b n n (g4.2 b hx) hln hb
  refine ⟨hi, vs, U, bs, d1 ++ ((b :: b1) ++ d3), e1, RdSE.mono hE (fun _ _ h => h.elim) hPX _ e2 (fun _ _ h => h), h2, e4, ?_, fun x hx => ?_⟩
  · rw [hde] at hnd
    have hg' : ∀ x ∈ bs ++ (d1 ++ d3), x ≠ b ∧ x ∉ b1 := fun x hx => ⟨fun hxg => by
      subst hxg
      exact h.owi x k n (how x hx) hln hb, fun hxb => by
      have h1 := how x hx
      rw [g4.2 x hxb] at h1
      exact hnk (Option.some.inj h1)⟩
    have g41 := g4.1
    simp only [List.nodup_append, List.mem_append, List.nil_append, List.cons_append, List.mem_cons, List.nodup_cons] at hnd hg' g41 ⊢
    grind
  · show (if c.ow x = some n ∨ (true = true ∧ c.ids n = some x) then some k else c.ow x) = some k
    split
    · rfl
    · rename_i hnot
      refine how x ?_
      have m1 : x ≠ b := fun e => hnot (.inr ⟨rfl, by rw [e]; exact hb⟩)
      have m2 : x ∉ b1 := fun e => hnot (.inl (g4.2 x e))
      simp only [List.mem_append, List.cons_append, List.mem_cons] at hx ⊢
      grind

/-- A nil slice becomes a row of the element's own. -/
theorem Sat.hideN (h : Sat T X Y w0 c s a w) {k sz i o sz' : Nat} {es : List (List D)} {e : List D} (hk : s.lk k = some (.rwh sz es i e)) (ho : e[o]? = some (.nl sz')) :
    Sat T X Y w0 c ⟨s.tm, obPut k (.rwh sz es i (e.set o (.sub sz' []))) s.ob⟩ a w := by
  refine h.upd hk ((Ext.refl (fun _ => False) w).mono fun _ _ h => h.elim) fun _ _ => ?_
  obtain ⟨hi, vs, U, bs, cs, e1, e2, e3, e4, e5⟩ := h.ob k _ hk
  obtain ⟨c1, c2, c3, v, rfl, hv, q1, q2⟩ := e3.at ho
  rw [RdS.of rfl] at q1
  obtain ⟨q1, rfl⟩ := q1
  simp only [Rd] at q1
  subst q1
  refine ⟨hi, vs, U, bs, _, e1, e2, q2 (.sub sz' []) [] ?_, e4, e5⟩
  simp only [RdS]
  exact ⟨none, 0, [], OwnsR.nil w 0 sz' none, by simp [RdE], by simp, rfl⟩

/-- The element is as the others. -/
theorem Sat.unhole (h : Sat T X Y w0 c s a w) {k sz i : Nat} {es : List (List D)} {e : List D} (hk : s.lk k = some (.rwh sz es i e)) (ha : e.all D.cellS = true) :
    Sat T X Y w0 c ⟨s.tm, obPut k (.rws sz (es.set i e)) s.ob⟩ a w := by
  refine h.upd hk ((Ext.refl (fun _ => False) w).mono fun _ _ h => h.elim) fun _ _ => ?_
  obtain ⟨hi, vs, U, bs, cs, e1, e2, e3, e4, e5⟩ := h.ob k _ hk
  obtain ⟨b1, b2, b3, rfl, q1, q2, q3⟩ := e2.at (i := i) (by simpa using hi)
  have h0 := q3 e _ cs q2 (e3.unctx ha)
  rw [List.set_set] at h0
  have hvs : vs.take (i * sz) ++ (vs.drop (i * sz)).take sz ++ vs.drop (i * sz + sz) = vs := by
    rw [List.append_assoc, ← List.drop_drop, List.take_append_drop, List.take_append_drop]
  rw [hvs] at h0
  exact ⟨vs, U, _, by simpa using e1, h0, e4, nodup_a e5.1, fun x hx => e5.2 x (by simp only [List.mem_append] at hx ⊢; grind)⟩

theorem Sat.vcou {k : Nat} {Q : St → Prop} : ∀ (l : List (Nat × Nat)) {s : St} {c : Cx}, Sat T X Y w0 c s a w → VCou k Q l s → ∃ c' s', Sat T X Y w0 c' s' a w ∧ Q s'
  | [], s, c, h, hv => ⟨c, s, h, hv⟩
  | (o, n) :: l, s, c, h, hv => by
    simp only [VCou] at hv
    split at hv
    · rename_i sz es i e hk
      split at hv
      · rename_i sz' es' ho
        obtain ⟨⟨h1, h2⟩, h3⟩ := hv
        obtain ⟨c', h'⟩ := h.show1 hk ho h1 h2
        exact Sat.vcou l h' h3
      · rename_i cs ho
        obtain ⟨⟨h1, h2⟩, h3⟩ := hv
        obtain ⟨c', h'⟩ := h.show2 hk ho h1 h2
        exact Sat.vcou l h' h3
      · exact hv.elim
    · exact hv.elim
theorem Sat.vccx {k : Nat} {Q : St → Prop} : ∀ (l : List Nat) {s : St} {c : Cx}, Sat T X Y w0 c s a w → VCcx k Q l s → ∃ c' s', Sat T X Y w0 c' s' a w ∧ Q s'
  | [], s, c, h, hv => by
    simp only [VCcx] at hv
    split at hv
    · rename_i sz es i e hk
      exact ⟨c, _, h.unhole hk hv.1, hv.2⟩
    · exact hv.elim
  | o :: l, s, c, h, hv => by
    simp only [VCcx] at hv
    split at hv
    · rename_i sz es i e hk
      split at hv
      · rename_i n ho
        split at hv
        · rename_i sz' es' hn
          obtain ⟨c', h'⟩ := h.hide1 hk ho hn hv.1
          exact Sat.vccx l h' hv.2
        · exact hv.elim
      · rename_i sz' ho
        exact Sat.vccx l (h.hideN hk ho) hv
      · rename_i n sz' ho
        split at hv
        · rename_i sz2 cs hn
          obtain ⟨⟨h1, h2, h3⟩, h4⟩ := hv
          subst h2
          subst h3
          obtain ⟨c', h'⟩ := h.hide2 hk ho hn h1
          exact Sat.vccx l h' h4
        · exact hv.elim
      · exact hv.elim
    · exact hv.elim

/-- A slice of one struct. -/
theorem snd_bslx (h : Sat T X Y w0 c s a w) {o : Oper} {U e : TypeId} {sz : Nat} {parts : Array (Nat × Operand)} {x : Operand} {y : Opd} {zs : List D} (ho : o.op = .buildSlice U 1 parts) (hp : parts.toList = [(0, x)]) (hu : P.underlying U = some (.slice e)) (hz : zeroT P e = some zs) (hsz : sizeT P e = some sz)
    (hx : cOpd P e x = some y) (hzl : zs.length = sz) (h0 : 0 < sz) (hmax : sz ≤ 16777216) (hg : (y.ev T s).gu = true) (hl : (y.ev T s).un.cells.length = sz) (hc : (y.ev T s).un.cells.all D.cell' = true)
    {k : Nat} (hd : o.dst = some k) (hk : s.lk k = none) (hkb : k < baseN) :
    ∃ v w' c', (execOp a.eval o).run P w = .ok (.value v) w' ∧ Sat T X Y w0 c' ((St.mk s.tm (obPut k (.rwh sz [List.replicate sz .any] 0 (y.ev T s).un.cells) s.ob)).set (some k) (.row k)) (a.put o.dst v) w' := by
  obtain ⟨it, z, hi, hz1, hz2⟩ := zeroT_spec hz
  have hisz : it.size = sz := by simpa [sizeT, hi] using hsz
  have hzr : RdL X w none zs z.cells.toList := mL_read hz2
  have hzlen : z.cells.size = sz := by have := hzr.length; simpa [hzl] using this
  have hr := h.cells (h.opdU hx hg) hc
  have hone := h.ones hr hc
  have hvl : (a.eval x).cells.size = sz := by have := hr.length; simpa [hl] using this
  obtain rfl : parts = #[(0, x)] := Array.ext' hp
  have hrun := run_buildSlice (P := P) w U e 1 ((#[(0, x)] : Array (Nat × Operand)).map fun (i, x) => (i, a.eval x)) (a.eval x).cells it z hu hi hz1 (by rw [hisz]; omega) (by rw [hisz]; omega) (by
    rw [hisz, ← hzlen, range_cells z.cells 1 (by omega), hzlen]
    have hps : ((#[(0, x)] : Array (Nat × Operand)).map fun (i, x) => (i, a.eval x)).toList = [(0, a.eval x)] := by simp
    rw [hps, fill_cons (place := fun i => some (i * sz, sz)) (off := 0) (n := sz) (by simp) hvl (by simp [hzlen])]
    have hdz : List.drop sz z.cells.toList = [] := List.drop_eq_nil_of_le (by simp [hzlen])
    simp [Instr.fill, hdz])
  have hnew := h.new (k := k) hk hkb (Ext.alloc w (.cells (a.eval x).cells e)) (b := some w.heap.size) (fun q hq => by simp at hq; subst hq; simp) (v := .slice (some ⟨w.heap.size, 0, none⟩) 1 1) ⟨rfl, rfl⟩ (o := .rwh sz [List.replicate sz .any] 0 (y.ev T s).un.cells) (fun r3 _ => by
    refine ⟨by simp, (a.eval x).cells.toList, e, [], [], ⟨by simpa using hvl, .inr ⟨w.heap.size, 1, (a.eval x).cells, by simp [Cx.with], by simp [Cx.with], heap_alloc_new _ _, by simp, by simp [maxLen], by simpa using hvl, ?_⟩⟩, ?_, ?_, hone, Owd.nil _ _⟩
    · simp only [List.length_cons, List.length_nil]
      rw [show (0 + 1) * sz = (a.eval x).cells.toList.length by simp [hvl], List.take_length]
    · simp only [List.set_cons_zero, RdSE]
      exact ⟨(a.eval x).cells.toList, [], [], [], by simp, by simpa using hvl, RdSL.of_closed (rdL_any _ _ (by simpa using hvl)), ⟨rfl, rfl⟩, rfl⟩
    · simp only [Nat.zero_mul, List.drop_zero]
      rw [show (List.take sz (a.eval x).cells.toList) = (a.eval x).cells.toList from List.take_of_length_le (by simp [hvl])]
      exact RdSL.of_closed (r3 _ _ hr))
  refine ⟨.slice (some ⟨w.heap.size, 0, none⟩) 1 1, w.alloc (.cells (a.eval x).cells e), c.with k (some w.heap.size) (.slice (some ⟨w.heap.size, 0, none⟩) 1 1), ?_, ?_⟩
  · simp only [execOp, ho, Sem.run_bind, hrun, Result.andThen_ok, Sem.run_pure]
  · rw [hd]
    exact hnew.put (some k) (d := .row k) (by simp only [Rd]; exact ⟨by simp [Cx.with], by simp [Cx.with]⟩)
end
end Go.Vcg

namespace Go.Vcg
section
variable {P : Program} {T : Tb} {X : Nat → Prop} {Y : Env} {w0 w : World} {c : Cx} {s : St} {a : Act}

theorem Sat.rdE_ones (h : Sat T X Y w0 c s a w) {sz : Nat} : ∀ {es : List (List D)} {vs : List Value}, RdE (PX X c) w sz es vs → (es.all fun e => e.all D.cell) = true → ∀ u ∈ vs, u.oneCell' = true
  | [], vs, hE, _, u, hu => by simp only [RdE] at hE; subst hE; simp at hu
  | e :: es, vs, hE, hall, u, hu => by
    simp only [RdE] at hE
    obtain ⟨v1, v2, rfl, _, h1, h2⟩ := hE
    simp only [List.all_cons, Bool.and_eq_true] at hall
    rcases List.mem_append.1 hu with hu | hu
    · refine h.ones (RdL.closedL (c := c) h1) ?_ u hu
      have := hall.1
      rw [List.all_eq_true] at this ⊢
      exact fun d hd => cell_cell' (this d hd)
    · exact rdE_ones h h2 hall.2 u hu

theorem snd_slca (h : Sat T X Y w0 c s a w) {o : Oper} {U e : TypeId} {x lo : Operand} {y j : Opd} {n len : Nat} (ho : o.op = .slice U x (some lo) none none) (hu : P.underlying U = some (.array len e)) (hn : sizeT P e = some n)
    (hx : cOpd P U x = some y) (hi : cOpd P 0 lo = some j) (hg : (y.ev T s).gu = true) (hg' : (j.ev T s).gu = true)
    {φ : Prop} {d : D} (hact : act T (.slca len n y j) (fun x => (x.ev T s).un) s.lk = some (φ, .val d)) (hφ : φ) : Yld P X c a w o d := by
  have hr := h.opdU hx hg
  have hri := h.opdU hi hg'
  have he : execOp a.eval o = (do pure (.value (← Instr.sliceAt U (a.eval x) (some (a.eval lo)) none none))) := by simp only [execOp, ho]; rfl
  simp only [act] at hact
  split at hact
  · rename_i sz' es k m hk hk'
    simp only [Option.some.injEq, Prod.mk.injEq, Eff.val.injEq] at hact
    obtain ⟨rfl, rfl⟩ := hact
    obtain ⟨rfl, rfl, h0, h1, h2, hall⟩ := hφ
    rw [hk] at hr
    rw [hk'] at hri
    simp only [Rd] at hr hri
    obtain ⟨b, off, vs, hv, hX, _, hc, hE⟩ := hr
    have hones := h.rdE_ones hE hall
    obtain ⟨q, rfl⟩ : ∃ q : Nat, m = q := ⟨m.toNat, by omega⟩
    have hlen : (es.drop ((q : Int)).toNat).length = es.length - q := by simp
    have hne : ¬ es.length = q := by omega
    have hcs := hc.sub (q * sz') vs.length
    rw [List.take_of_length_le (by simp)] at hcs
    refine yld_of_run he (v := .slice (some ⟨b, off + q * sz', none⟩) (es.length - q) (es.length - q)) ?_ ?_
    · rw [hv, hri]
      simp [Instr.sliceAt, Instr.sliceBounds, run_underlying hu, run_sizeOf hn, addr_add, Instr.sureAddr, run_sliceBound (P := P) (w := w) (k := k) (show q ≤ es.length by omega), hne]
    · simp only [Rd]
      refine .inr ⟨b, off + q * sz', es.length - q, vs.drop (q * sz'), by rw [hlen], by rw [hlen]; omega, by unfold maxLen; omega, hX, hcs, ?_, fun u hu => hones u (List.mem_of_mem_drop hu)⟩
      simpa using hE.drop q
  · simp at hact

theorem Sat.news (h : Sat T X Y w0 c s a w) {sz : Nat} {d : D} {v : Value} (hr : Rd (PX X c) w (some c) d v) {ns : List (List D)} (hn : newsOf sz s.lk d = some ns) :
    ((∃ o, v = .slice o 0 0) ∧ ns = []) ∨ ∃ b off cap vs, v = .slice (some ⟨b, off, none⟩) ns.length cap ∧ CellsAt w b off vs ∧ RdE (PX X c) w sz ns vs ∧ (∀ u ∈ vs, u.oneCell' = true) := by
  unfold newsOf at hn
  split at hn
  · rename_i sz' es
    split at hn
    · rename_i hsz
      subst hsz
      obtain rfl := Option.some.inj hn
      simp only [Rd] at hr
      rcases hr with hr | ⟨b, off, cap, vs, h1, _, _, _, h2, h3, h4⟩
      · exact .inl hr
      · exact .inr ⟨b, off, cap, vs, h1, h2, h3, h4⟩
    · cases hn
  · obtain rfl := Option.some.inj hn
    simp only [Rd] at hr
    exact .inl ⟨⟨none, hr⟩, rfl⟩
  · rename_i k
    split at hn
    · rename_i sz' es hlk
      split at hn
      · rename_i hsz
        subst hsz
        obtain rfl := Option.some.inj hn
        simp only [Rd] at hr
        obtain ⟨_, rfl⟩ := hr
        obtain ⟨vs, U, e1, e2, e3⟩ := h.ob k _ hlk
        rcases e1.2 with ⟨g1, g2, _⟩ | ⟨g, cap, cur, g1, g2, g3, g4, g5, g6, g7⟩
        · exact .inl ⟨g1, List.eq_nil_of_length_eq_zero g2⟩
        · refine .inr ⟨g, 0, cap, vs, g1, ⟨cur, U, (0, 0), g3, fun j v hv => ?_⟩, e2, e3⟩
          rw [← g7, List.getElem?_take] at hv
          split at hv
          · simpa using hv
          · simp at hv
      · cases hn
    · cases hn
  · rename_i k sz' lo n cp
    split at hn
    · rename_i sz2 es hlk
      split at hn
      · rename_i hsz
        obtain ⟨rfl, rfl, hcp, hle, hall⟩ := hsz
        obtain rfl := Option.some.inj hn
        simp only [Rd] at hr
        obtain ⟨_, b, o, hb, rfl, ho⟩ := hr
        obtain ⟨b', cur, U, e1, e2, e3, e4, e5⟩ := h.ob k _ hlk
        obtain rfl : b' = b := Option.some.inj (e1.symm.trans hb)
        have hlen : ((es.drop lo).take n).length = n := by simp; omega
        rcases Nat.eq_zero_or_pos n with hn0 | hn0
        · subst hn0
          refine .inr ⟨b', o, cp, [], by simp, ⟨cur, U, (0, 0), e2, by simp⟩, by simp [RdE], by simp⟩
        · have hE := (e5.drop lo).take n
          rw [ho (by omega)]
          refine .inr ⟨b', lo * sz2, cp, (cur.toList.drop (lo * sz2)).take (n * sz2), by rw [hlen], ?_, hE, h.rdE_ones hE hall⟩
          simpa using (CellsAt.of_arr e2).sub (lo * sz2) (n * sz2)
      · cases hn
    · cases hn
  · cases hn

theorem run_append_of {o : Oper} {U : TypeId} {x y : Operand} (ho : o.op = .call { callee := .builtin .append, args := #[x, y], argTypes := #[U, U] }) {v : Value} {w' : World} (hv : (Builtin.append_ #[U, U] o.type #[a.eval x, a.eval y]).run P w = .ok v w') : (execOp a.eval o).run P w = .ok (.value v) w' := by
  unfold execOp
  simp only [ho, resolve, invoke, builtin, Sem.run_bind, Sem.run_pure, Result.andThen_ok, List.map_toArray, List.map_cons, List.map_nil, hv]

/-- Into the room that is there, whatever the block was made for. -/
theorem append_room {U ty e V : TypeId} {i : TypeInfo} (hu : P.underlying U = some (.slice e)) (hi : P.info? e = some i) {g n cap : Nat} {cur : Array Value} (hg : w.heap[g]? = some (.cells cur V (0, 0)))
    {ad : Addr} {m c' : Nat} {news : List Value} (hl : news.length = m * i.size) (hnews : ∀ (j : Nat) u, news[j]? = some u → w.cell? (ad.add j) = some u) (h1 : ∀ u ∈ news, u.oneCell' = true) (hroom : n + m ≤ cap) (hfit : n * i.size + news.length ≤ cur.size) :
    (Builtin.append_ #[U, U] ty #[.slice (some ⟨g, 0, none⟩) n cap, .slice (some ad) m c']).run P w = .ok (.slice (some ⟨g, 0, none⟩) (n + m) cap) (w.setRow g (cur.toList.take (n * i.size) ++ news ++ cur.toList.drop (n * i.size + news.length)).toArray) := by
  have hf := run_firstCells_some (P := P) w i.size m ad m c' news hl hnews
  have hst := run_storeCells_at (P := P) g (n * i.size) V news 0 cur w hg (by simpa using hfit) h1
  simp only [Nat.add_zero] at hst
  simp [Builtin.append_, run_underlying hu, sizeOf, typeInfo, hi, Builtin.lenOf, hroom, hf, Addr.add_lit, hst]

/-- Append to a row of one's own. -/
theorem append_own {U ty e V : TypeId} {i : TypeInfo} {z : Value} (hu : P.underlying U = some (.slice e)) (hi : P.info? e = some i) (hz : i.zero = some z) (hzs : z.cells.size = i.size)
    {v : Value} {n : Nat} {xs : List Value} {vb : Option Nat} (hown : OwnsR w V i.size vb v n xs) {ad : Addr} {m c' : Nat} {news : List Value} (hl : news.length = m * i.size) (hnews : ∀ (j : Nat) u, news[j]? = some u → w.cell? (ad.add j) = some u) (h1 : ∀ u ∈ news, u.oneCell' = true)
    (hm : n + m ≤ maxLen) (hb : (n + m) * i.bytes ≤ 140737488355328) :
    ∃ v' w' V' vb', (Builtin.append_ #[U, U] ty #[v, .slice (some ad) m c']).run P w = .ok v' w' ∧ OwnsR w' V' i.size vb' v' (n + m) (xs ++ news) ∧ w.grownBy w' vb ∧ (vb' = vb ∨ vb' = none ∨ vb' = some w.heap.size) := by
  have hsmall : n + m ≤ 9223372036854775807 := by simp only [maxLen] at hm; omega
  have hlen : (xs ++ news).length = (n + m) * i.size := by rw [List.length_append, hown.1, hl, Nat.add_mul]
  have grown : ∀ (old : Nat), OwnsR (w.drew.alloc (.cells (xs.toArray ++ news.toArray ++ Builtin.zeroCells z.cells (grownCap w (n + m) old e - (n + m))) e)) e i.size (some w.heap.size)
        (.slice (some ⟨w.heap.size, 0, none⟩) (n + m) (grownCap w (n + m) old e)) (n + m) (xs ++ news) := by
    intro old
    have hge := grownCap_ge w (n + m) old e
    refine ⟨hlen, .inr ⟨w.heap.size, _, _, rfl, rfl, heap_alloc_new w.drew _, hge, grownCap_le_maxLen w (n + m) old e hm, ?_, ?_⟩⟩
    · simp only [Array.size_append, List.size_toArray, size_zeroCells, hzs, hown.1, hl, ← Nat.add_mul]
      congr 1; omega
    · simp only [Array.toList_append, List.append_assoc]
      rw [← List.append_assoc, ← hlen]
      exact List.take_left
  have gb : ∀ (o : Obj) (row : Option Nat), w.grownBy (w.drew.alloc o) row := fun o row => ⟨rfl, rfl, rfl, by simp, fun k hk _ => RowKit.Below.heap_alloc w.drew o k hk⟩
  rcases hown.2 with ⟨⟨o0, rfl⟩, rfl, rfl⟩ | ⟨g, cap, cur, rfl, hbg, hg, hnc, hcm, hcs, htake⟩
  · have hx : xs = [] := List.eq_nil_of_length_eq_zero (by simpa using hown.1)
    subst hx
    by_cases h0 : m = 0
    · subst h0
      have hn : news = [] := List.eq_nil_of_length_eq_zero (by simpa using hl)
      subst hn
      cases o0 with
      | none =>
        refine ⟨.slice none 0 0, w, V, none, ?_, OwnsR.nil w V i.size none, ⟨rfl, rfl, rfl, Nat.le_refl _, fun _ _ _ => rfl⟩, .inl rfl⟩
        simp [Builtin.append_, run_underlying hu, sizeOf, typeInfo, hi, Builtin.lenOf, Builtin.firstCells, loadCells, loadCellsFrom]
      | some a0 =>
        refine ⟨.slice (some a0) 0 0, w, V, none, ?_, OwnsR.nil w V i.size (some a0), ⟨rfl, rfl, rfl, Nat.le_refl _, fun _ _ _ => rfl⟩, .inl rfl⟩
        simp [Builtin.append_, run_underlying hu, sizeOf, typeInfo, hi, Builtin.lenOf, Builtin.firstCells, loadCells, loadCellsFrom, storeCells]
    · cases o0 with
      | none =>
        have hr := run_append_nil (P := P) w U ty e i z hu hi hz ad m c' news hl hnews (by omega) (by omega) (by have := hb; simp only [Nat.zero_add] at this; omega)
        have hgr := grown 0
        simp only [Nat.zero_add, List.nil_append, Array.empty_append] at hgr ⊢
        exact ⟨_, _, e, _, hr, hgr, gb _ _, .inr (.inr rfl)⟩
      | some a0 =>
        have hr := run_append_grow (P := P) w U ty e i z hu hi hz a0 0 0 [] (by simp) (by simp) ad m c' news hl hnews (by omega) (by omega) (growslice_fits (by omega) hb)
        have hgr := grown 0
        exact ⟨_, _, e, _, hr, hgr, gb _ _, .inr (.inr rfl)⟩
  · by_cases hroom : n + m ≤ cap
    · have hfit : n * i.size + news.length ≤ cur.size := by rw [hl, hcs, ← Nat.add_mul]; exact Nat.mul_le_mul_right _ hroom
      have hr := append_room (P := P) (ty := ty) hu hi hg hl hnews h1 hroom hfit (c' := c')
      refine ⟨_, _, V, vb, hr, ⟨hlen, .inr ⟨g, cap, _, rfl, hbg, setRow_heap w g cur _ V _ hg, hroom, hcm, ?_, ?_⟩⟩, ⟨rfl, rfl, rfl, by simp, fun k _ hk => setRow_other w g k _ (fun e => hk (by rw [hbg, e]))⟩, .inl rfl⟩
      · simp only [List.size_toArray, List.length_append, List.length_take, List.length_drop, Array.length_toList]; omega
      · rw [htake, ← hlen]; exact List.take_left
    · have holds : ∀ (j : Nat) u, xs[j]? = some u → w.cell? ((⟨g, 0, none⟩ : Addr).add j) = some u := World.ownsRow.cells (w := w) (base := 0) (e := V) (size := i.size) (n := n) ⟨hown.1, .inr ⟨g, cap, cur, rfl, Nat.zero_le _, hg, hnc, hcm, hcs, htake⟩⟩ (g := g) rfl
      have hr := run_append_grow (P := P) w U ty e i z hu hi hz ⟨g, 0, none⟩ n cap xs hown.1 holds ad m c' news hl hnews (by omega) (by omega) (growslice_fits (by omega) hb)
      exact ⟨_, _, e, _, hr, grown cap, gb _ _, .inr (.inr rfl)⟩

theorem snd_append (h : Sat T X Y w0 c s a w) {o : Oper} {U e : TypeId} {x y : Operand} {x' y' : Opd} {i : TypeInfo} {zs : List D} (ho : o.op = .call { callee := .builtin .append, args := #[x, y], argTypes := #[U, U] })
    (hu : P.underlying U = some (.slice e)) (hi : P.info? e = some i) (hz : zeroT P e = some zs) (hx : cOpd P U x = some x') (hy : cOpd P U y = some y') (hzl : zs.length = i.size) (h0 : 0 < i.size) (hg : (x'.ev T s).gu = true) (hg' : (y'.ev T s).gu = true)
    {j : Nat} (hd : o.dst = some j) {ns : List (List D)} (hn : newsOf i.size s.lk (y'.ev T s).un = some ns) :
    (∀ k sz es, (x'.ev T s).un = .row k → s.lk k = some (.row sz es) → sz = i.size → (y'.ev T s).un ≠ .row k → (es.length + ns.length) * i.bytes ≤ 140737488355328 → es.length + ns.length ≤ 9223372036854775807 → (s.lk j = none ∨ j = k) → j < baseN →
      ∃ v w' c', (execOp a.eval o).run P w = .ok (.value v) w' ∧ Sat T X Y w0 c' ((St.mk (forgetL k s.tm) (obPut j (.row i.size (es ++ ns)) (forgetO k (obDel k s.ob)))).set (some j) (.row j)) (a.put o.dst v) w') ∧
    (∀ z, (x'.ev T s).un = .nl z → ns.length * i.bytes ≤ 140737488355328 → ns.length ≤ 9223372036854775807 → s.lk j = none → j < baseN →
      ∃ v w' c', (execOp a.eval o).run P w = .ok (.value v) w' ∧ Sat T X Y w0 c' ((St.mk s.tm (obPut j (.row i.size ns) s.ob)).set (some j) (.row j)) (a.put o.dst v) w') ∧
    (∀ k sz es, (x'.ev T s).un = .row k → s.lk k = some (.rws sz es) → sz = i.size → (y'.ev T s).un ≠ .row k → (es.length + ns.length) * i.bytes ≤ 140737488355328 → es.length + ns.length ≤ 9223372036854775807 → (s.lk j = none ∨ j = k) → j < baseN →
      ∃ v w' c', (execOp a.eval o).run P w = .ok (.value v) w' ∧ Sat T X Y w0 c' ((St.mk (forgetL k s.tm) (obPut j (.rws i.size (es ++ ns)) (forgetO k (obDel k s.ob)))).set (some j) (.row j)) (a.put o.dst v) w') := by
  have hrx := h.opdU hx hg
  have hry := h.opdU hy hg'
  obtain ⟨it, z, hit, hz1, hz2⟩ := zeroT_spec hz
  obtain rfl : it = i := Option.some.inj (hit.symm.trans hi)
  have hzlen : z.cells.size = it.size := by
    have := (mL_read (w := w) (Z := X) (cx := none) hz2).length
    simpa [hzl] using this
  have news := h.news hry hn
  -- the run, of a value that owns its row
  have run : ∀ (v : Value) (n : Nat) (xs : List Value) (V : TypeId) (vb : Option Nat), OwnsR w V it.size vb v n xs → a.eval x = v → (n + ns.length) * it.bytes ≤ 140737488355328 → n + ns.length ≤ 9223372036854775807 →
      ∃ v' w' vs V' vb', (execOp a.eval o).run P w = .ok (.value v') w' ∧ OwnsR w' V' it.size vb' v' (n + ns.length) (xs ++ vs) ∧ RdE (PX X c) w it.size ns vs ∧ (∀ u ∈ vs, u.oneCell' = true) ∧ w.grownBy w' vb ∧ (vb' = vb ∨ vb' = none ∨ vb' = some w.heap.size) := by
    intro v n xs V vb hown hv hb hm
    rcases news with ⟨⟨o0, hy0⟩, rfl⟩ | ⟨b, off, cap, vs, hyv, hc, hE, h1⟩
    · cases o0 with
      | some ad =>
        obtain ⟨v', w', V', vb', g1, g2, g3, g5⟩ := append_own (P := P) (ty := o.type) hu hi hz1 hzlen hown (ad := ad) (m := 0) (news := []) (by simp) (by simp) (by simp) (by simpa [maxLen] using hm) (by simpa using hb) (c' := 0)
        exact ⟨v', w', [], V', vb', run_append_of ho (by rw [hv, hy0]; exact g1), by simpa using g2, by simp [RdE], by simp, g3, g5⟩
      | none =>
      refine ⟨v, w, [], V, vb, run_append_of ho ?_, by simpa using hown, by simp [RdE], by simp, ⟨rfl, rfl, rfl, Nat.le_refl _, fun _ _ _ => rfl⟩, .inl rfl⟩
      rw [hv, hy0]
      rcases hown.2 with ⟨⟨o1, rfl⟩, rfl, _⟩ | ⟨g, cap, cur, rfl, _, _, hnc, _⟩
      · cases o1 <;> simp [storeCells, Builtin.append_, run_underlying hu, sizeOf, typeInfo, hi, Builtin.lenOf, Builtin.firstCells]
      · simp [Builtin.append_, run_underlying hu, sizeOf, typeInfo, hi, Builtin.lenOf, Builtin.firstCells, hnc, storeCells]
    · obtain ⟨v', w', V', vb', g1, g2, g3, g5⟩ := append_own (P := P) (ty := o.type) hu hi hz1 hzlen hown hE.length (fun j u hu => by rw [addr_add]; exact hc.cell hu) h1 (by simpa [maxLen] using hm) hb (c' := cap)
      exact ⟨v', w', vs, V', vb', run_append_of ho (by rw [hv, hyv]; exact g1), g2, hE, h1, g3, g5⟩
  refine ⟨?_, ?_, ?_⟩
  · intro k sz es hk hlk hsz hne hb hm hj hjb
    subst hsz
    rw [hk] at hrx
    simp only [Rd] at hrx
    obtain ⟨vs0, V, e1, e2, e3⟩ := h.ob k _ hlk
    obtain ⟨v', w', vs, V', vb', hr, hown, hE, h1, hgr, hbl⟩ := run (c.rv k) es.length vs0 V _ e1 hrx.2 hb hm
    have hmv := h.move (v := v') (vb := vb') (j := j) (o := .row it.size (es ++ ns)) hlk hj hjb (w' := w') (⟨hgr.os, hgr.tape, hgr.output, hgr.size, fun b hb hn => hgr.block b hb (fun he => hn he.symm)⟩)
      (by rcases hbl with hb | hb | hb
          · exact .inl hb
          · exact .inr (.inl hb)
          · exact .inr (.inr ⟨hb, hown.lt hb⟩)) hown.one (fun _ r4 => by
        refine ⟨vs0 ++ vs, V', by simpa [Cx.moved, Cx.with] using hown, r4 _ _ _ (e2.append hE), fun u hu => ?_⟩
        rcases List.mem_append.1 hu with hu | hu
        · exact e3 u hu
        · exact h1 u hu)
    refine ⟨v', w', c.moved k j vb' v', hr, ?_⟩
    rw [hd]
    exact hmv.put (some j) (d := .row j) (v := v') (by simp only [Rd]; exact ⟨by simp [Cx.moved, Cx.with], by simp [Cx.moved, Cx.with]⟩)
  · intro z0 hk hb hm hj hjb
    rw [hk] at hrx
    simp only [Rd] at hrx
    obtain ⟨v', w', vs, V', vb', hr, hown, hE, h1, hgr, hbl⟩ := run (.slice none 0 0) 0 [] e none (OwnsR.nil w e it.size none) hrx (by simpa using hb) (by simpa using hm)
    have hnew := h.new (k := j) (o := .row it.size ns) hj hjb (w' := w') (⟨hgr.os, hgr.tape, hgr.output, hgr.size, fun b hb _ => hgr.block b hb (by simp)⟩) (b := vb')
      (fun q hq => by
        rcases hbl with hb | hb | hb
        · rw [hb] at hq; cases hq
        · rw [hb] at hq; cases hq
        · have := hown.lt hq
          rw [hb] at hq
          obtain rfl := Option.some.inj hq
          exact ⟨Nat.le_refl _, this⟩) (v := v') hown.one (fun _ r4 => by
        refine ⟨vs, V', ?_, r4 _ _ _ hE, h1⟩
        simpa [Cx.with] using hown)
    refine ⟨v', w', c.with j vb' v', hr, ?_⟩
    rw [hd]
    exact hnew.put (some j) (d := .row j) (v := v') (by simp only [Rd]; exact ⟨by simp [Cx.with], by simp [Cx.with]⟩)
  · intro k sz es hk hlk hsz hne hb hm hj hjb
    subst hsz
    rw [hk] at hrx
    simp only [Rd] at hrx
    obtain ⟨vs0, V, bs, e1, e2, e3, e4⟩ := h.ob k _ hlk
    obtain ⟨v', w', vs, V', vb', hr, hown, hE, h1, hgr, hbl⟩ := run (c.rv k) es.length vs0 V _ e1 hrx.2 hb hm
    have hlv : c.live k = true := by rw [h.live, hlk]; rfl
    have hEk : Ext (fun b => c.ids k = some b) w w' := ⟨hgr.os, hgr.tape, hgr.output, hgr.size, fun b hb hn => hgr.block b hb (fun he => hn he.symm)⟩
    have hmv := h.move (v := v') (vb := vb') (j := j) (o := .rws it.size (es ++ ns)) hlk hj hjb (w' := w') hEk
      (by rcases hbl with hb | hb | hb
          · exact .inl hb
          · exact .inr (.inl hb)
          · exact .inr (.inr ⟨hb, hown.lt hb⟩)) hown.one (fun hPX r4 => by
        refine ⟨vs0 ++ vs, V', bs ++ [], by simpa [Cx.moved, Cx.with] using hown, (RdSE.mono hEk (fun b _ hb => .inr (.inl ⟨k, hlv, hb⟩)) hPX _ e2 (fun b hb => h.owi b k k (e4.2 b hb) hlv)).append (RdSE.of_closed (r4 _ _ _ hE)), fun u hu => ?_, by simpa using e4.1, fun b hb => ?_⟩
        · rcases List.mem_append.1 hu with hu | hu
          · exact e3 u hu
          · exact h1 u hu
        · have := e4.2 b (by simpa using hb)
          simp [Cx.moved, this])
    refine ⟨v', w', c.moved k j vb' v', hr, ?_⟩
    rw [hd]
    exact hmv.put (some j) (d := .row j) (v := v') (by simp only [Rd]; exact ⟨by simp [Cx.moved, Cx.with], by simp [Cx.moved, Cx.with]⟩)

/-- Append of a row that has rows of its own: they go over. -/
theorem snd_append2 (h : Sat T X Y w0 c s a w) {o : Oper} {U e : TypeId} {x y : Operand} {x' y' : Opd} {i : TypeInfo} {zs : List D} (ho : o.op = .call { callee := .builtin .append, args := #[x, y], argTypes := #[U, U] })
    (hu : P.underlying U = some (.slice e)) (hi : P.info? e = some i) (hz : zeroT P e = some zs) (hx : cOpd P U x = some x') (hy : cOpd P U y = some y') (hzl : zs.length = i.size) (h0 : 0 < i.size) (hg : (x'.ev T s).gu = true) (hg' : (y'.ev T s).gu = true)
    {j k k2 sz sz2 : Nat} {es ns : List (List D)} (hd : o.dst = some j) (hk : (x'.ev T s).un = .row k) (hk2 : (y'.ev T s).un = .row k2) (hlk : s.lk k = some (.rws sz es)) (hlk2 : s.lk k2 = some (.rws sz2 ns)) (hs1 : sz = i.size) (hs2 : sz2 = i.size) (hne : k2 ≠ k)
    (hb : (es.length + ns.length) * i.bytes ≤ 140737488355328) (hm : es.length + ns.length ≤ 9223372036854775807) (hj : s.lk j = none) (hjb : j < baseN) :
    ∃ v w' c', (execOp a.eval o).run P w = .ok (.value v) w' ∧ Sat T X Y w0 c' ((St.mk (forgetL k (forgetL k2 s.tm)) (obPut j (.rws i.size (es ++ ns)) (forgetO k (obDel k (forgetO k2 (obDel k2 s.ob)))))).set (some j) (.row j)) (a.put o.dst v) w' := by
  subst hs1
  subst hs2
  have hrx := h.opdU hx hg
  have hry := h.opdU hy hg'
  rw [hk] at hrx
  rw [hk2] at hry
  simp only [Rd] at hrx hry
  obtain ⟨it, z, hit, hz1, hz2⟩ := zeroT_spec hz
  obtain rfl : it = i := Option.some.inj (hit.symm.trans hi)
  have hzlen : z.cells.size = it.size := by
    have := (mL_read (w := w) (Z := X) (cx := none) hz2).length
    simpa [hzl] using this
  obtain ⟨vs0, V, bs, e1, e2, e3, e4⟩ := h.ob k _ hlk
  obtain ⟨vs2, V2, bs2, f1, f2, f3, f4⟩ := h.ob k2 _ hlk2
  have hlv : c.live k = true := by rw [h.live, hlk]; rfl
  have hlv2 : c.live k2 = true := by rw [h.live, hlk2]; rfl
  -- the run
  have run : ∃ v' w' V' vb', (execOp a.eval o).run P w = .ok (.value v') w' ∧ OwnsR w' V' it.size vb' v' (es.length + ns.length) (vs0 ++ vs2) ∧ w.grownBy w' (c.ids k) ∧ (vb' = c.ids k ∨ vb' = none ∨ vb' = some w.heap.size) := by
    rcases f1.2 with ⟨⟨o0, g1⟩, g2, _⟩ | ⟨g, cap, cur, g1, g2, g3, g4, g5, g6, g7⟩
    · have hns : ns = [] := List.eq_nil_of_length_eq_zero g2
      have hvs2 : vs2 = [] := List.eq_nil_of_length_eq_zero (by rw [f1.1, hns]; simp)
      subst hvs2
      cases o0 with
      | some ad =>
        obtain ⟨v', w', V', vb', q1, q2, q3, q5⟩ := append_own (P := P) (ty := o.type) hu hi hz1 hzlen e1 (ad := ad) (m := 0) (news := []) (by simp) (by simp) (by simp) (by simp only [maxLen]; omega) (by rw [hns] at hb; simpa using hb) (c' := 0)
        exact ⟨v', w', V', vb', run_append_of ho (by rw [hrx.2, hry.2, g1]; exact q1), by rw [hns]; simpa using q2, q3, q5⟩
      | none =>
        refine ⟨c.rv k, w, V, c.ids k, run_append_of ho ?_, by rw [hns]; simpa using e1, ⟨rfl, rfl, rfl, Nat.le_refl _, fun _ _ _ => rfl⟩, .inl rfl⟩
        rw [hrx.2, hry.2, g1]
        rcases e1.2 with ⟨⟨o1, hq⟩, hq2, _⟩ | ⟨g, cap, cur, hq, _, _, hnc, _⟩
        · rw [hq]; cases o1 <;> simp [storeCells, Builtin.append_, run_underlying hu, sizeOf, typeInfo, hi, Builtin.lenOf, Builtin.firstCells]
        · rw [hq]; simp [Builtin.append_, run_underlying hu, sizeOf, typeInfo, hi, Builtin.lenOf, Builtin.firstCells, hnc, storeCells]
    · have hc := f1.cellsAt g2
      obtain ⟨v', w', V', vb', q1, q2, q3, q5⟩ := append_own (P := P) (ty := o.type) hu hi hz1 hzlen e1 (ad := ⟨g, 0, none⟩) f1.1 (fun j u hu => by rw [addr_add]; exact hc.cell hu) f3 (by simpa [maxLen] using hm) hb (c' := cap)
      exact ⟨v', w', V', vb', run_append_of ho (by rw [hrx.2, hry.2, g1]; exact q1), q2, q3, q5⟩
  obtain ⟨v', w', V', vb', hr, hown, hgr, hbl⟩ := run
  have hg2 := h.gone (n := k2) (by rw [hlk2]; rfl) k false
  have hlk' : St.lk ⟨forgetL k2 s.tm, forgetO k2 (obDel k2 s.ob)⟩ k = some (.rws it.size es) := by
    unfold St.lk
    simp only
    rw [lk_forget, lk_del, if_neg (fun e => hne e.symm)]
    have : s.ob.lookup k = some (.rws it.size es) := hlk
    rw [this]; rfl
  have hlkj : St.lk ⟨forgetL k2 s.tm, forgetO k2 (obDel k2 s.ob)⟩ j = none := by
    unfold St.lk
    simp only
    rw [lk_forget, lk_del]
    have : s.ob.lookup j = none := hj
    rw [this]; split <;> rfl
  have hlvg : (c.gone k2 k false).live k = true := by simp only [Cx.gone, if_neg (fun e : k = k2 => hne e.symm)]; exact hlv
  have hEk : Ext (fun b => (c.gone k2 k false).ids k = some b) w w' := ⟨hgr.os, hgr.tape, hgr.output, hgr.size, fun b hb hn => hgr.block b hb (fun he => hn he.symm)⟩
  have hPXg : ∀ b, b < w.heap.size → PX X (c.gone k2 k false) b → PX X c b := by
    intro b _ hp
    rcases hp with hp | ⟨i, hi, hix⟩ | ⟨i, hi⟩
    · exact .inl hp
    · simp only [Cx.gone] at hi hix
      split at hi
      · cases hi
      · exact .inr (.inl ⟨i, hi, hix⟩)
    · simp only [Cx.gone] at hi
      split at hi
      · rename_i hc
        rcases hc with hc | hc
        · exact .inr (.inr ⟨k2, hc⟩)
        · cases hc.1
      · exact .inr (.inr ⟨i, hi⟩)
  have hmv := hg2.move (v := v') (vb := vb') (j := j) (o := .rws it.size (es ++ ns)) hlk' (.inl hlkj) hjb (w' := w') hEk
    (by rcases hbl with hb | hb | hb
        · exact .inl hb
        · exact .inr (.inl hb)
        · exact .inr (.inr ⟨hb, hown.lt hb⟩)) hown.one (fun hPX r4 => by
      have hEc : Ext (fun b => c.ids k = some b) w w' := hEk
      have hX' : ∀ b, b < w.heap.size → PX X ((c.gone k2 k false).moved k j vb' v') b → PX X c b := fun b hb hp => hPXg b hb (hPX b hb hp)
      have hYc : ∀ b, b < w.heap.size → c.ids k = some b → PX X c b := fun b _ hb => .inr (.inl ⟨k, hlv, hb⟩)
      refine ⟨vs0 ++ vs2, V', bs ++ bs2, by simpa [Cx.moved, Cx.with] using hown, (RdSE.mono hEc hYc hX' _ e2 (fun b hb => h.owi b k k (e4.2 b hb) hlv)).append (RdSE.mono hEc hYc hX' _ f2 (fun b hb => h.owi b k2 k (f4.2 b hb) hlv)), fun u hu => ?_, ?_, fun b hb => ?_⟩
      · rcases List.mem_append.1 hu with hu | hu
        · exact e3 u hu
        · exact f3 u hu
      · refine List.nodup_append.2 ⟨e4.1, f4.1, fun x hx y hy hxy => ?_⟩
        subst hxy
        have h1 := e4.2 x hx
        have h2 := f4.2 x hy
        rw [h1] at h2
        exact hne (Option.some.inj h2).symm
      · rcases List.mem_append.1 hb with hb | hb
        · have := e4.2 b hb
          simp [Cx.moved, Cx.gone, this]
        · have := f4.2 b hb
          simp [Cx.moved, Cx.gone, this])
  refine ⟨v', w', (c.gone k2 k false).moved k j vb' v', hr, ?_⟩
  rw [hd]
  exact hmv.put (some j) (d := .row j) (v := v') (by simp only [Rd]; exact ⟨by simp [Cx.moved, Cx.with], by simp [Cx.moved, Cx.with]⟩)

/-- The front of a row. -/
theorem snd_slcr (h : Sat T X Y w0 c s a w) {o : Oper} {U e : TypeId} {x hi : Operand} {y m : Opd} {n : Nat} (ho : o.op = .slice U x none (some hi) none) (hu : P.underlying U = some (.slice e)) (hn : sizeT P e = some n) (hx : cOpd P U x = some y) (hhi : cOpd P 0 hi = some m) (hg : (y.ev T s).gu = true) (hg' : (m.ev T s).gu = true)
    {j k sz : Nat} {kd : IntKind} {q : Int} {es : List (List D)} (hd : o.dst = some j) (hk : (y.ev T s).un = .row k) (hm : (m.ev T s).un = .int kd q) (hlk : s.lk k = some (.row sz es)) (hsz : sz = n) (h0 : 0 ≤ q) (h1 : q ≤ es.length) (hj : s.lk j = none ∨ j = k) (hjb : j < baseN) :
    ∃ v w' c', (execOp a.eval o).run P w = .ok (.value v) w' ∧ Sat T X Y w0 c' ((St.mk (forgetL k s.tm) (obPut j (.row n (es.take q.toNat)) (forgetO k (obDel k s.ob)))).set (some j) (.row j)) (a.put o.dst v) w' := by
  subst hsz
  have hr := h.opdU hx hg
  have hrm := h.opdU hhi hg'
  rw [hk] at hr
  rw [hm] at hrm
  simp only [Rd] at hr hrm
  have he : execOp a.eval o = (do pure (.value (← Instr.sliceAt U (a.eval x) none (some (a.eval hi)) none))) := by simp only [execOp, ho]; rfl
  obtain ⟨vs, V, e1, e2, e3⟩ := h.ob k _ hlk
  obtain ⟨q', rfl⟩ := Int.eq_ofNat_of_zero_le h0
  have hlen : (es.take q').length = q' := by simp; omega
  have hE := e2.take q'
  have main : ∃ v vb, (vb = c.ids k ∨ vb = none) ∧ (Instr.sliceAt U (a.eval x) none (some (a.eval hi)) none).run P w = .ok v w ∧ OwnsR w V sz vb v q' (vs.take (q' * sz)) := by
    have hvl : (vs.take (q' * sz)).length = q' * sz := by have := hE.length; rw [hlen] at this; exact this
    rcases e1.2 with ⟨⟨o0, g1⟩, g2, _⟩ | ⟨g, cap, cur, g1, g2, g3, g4, g5, g6, g7⟩
    · have hq0 : q' = 0 := by omega
      subst hq0
      have hszr := run_sizeOf (P := P) hn w
      have hb := run_sliceBounds (P := P) (w := w) (len := 0) (cap := 0) (l := 0) (h := 0) (by omega) (by omega) (by omega) none (some (.int kd 0)) (k := .i64) (k' := kd) (.inl ⟨rfl, rfl⟩) (.inr rfl)
      refine ⟨.slice o0 0 0, none, .inr rfl, ?_, ⟨by simp, .inl ⟨⟨o0, rfl⟩, rfl, rfl⟩⟩⟩
      rw [hr.2, g1, hrm]
      simp only [Instr.sliceAt, Sem.run_bind, run_underlying hu, Result.andThen_ok, Instr.slice, Int.natCast_zero, hb, hszr, Sem.run_pure]
      simp
    · refine ⟨.slice (some ⟨g, 0, none⟩) q' cap, c.ids k, .inl rfl, ?_, ⟨hvl, .inr ⟨g, cap, cur, rfl, g2, g3, by omega, g5, g6, ?_⟩⟩⟩
      · have := run_sliceAt2 (P := P) (w := w) hu hn (b := g) (o := 0) (len := es.length) (cap := cap) (l := 0) (h := q') (by omega) (by omega) none (some (a.eval hi)) (k := .i64) (k' := kd) (.inl ⟨rfl, rfl⟩) (.inr (by rw [hrm]))
        rw [hr.2, g1, this]
        simp
      · rw [← g7, List.take_take]
        congr 1
        exact (Nat.min_eq_left (Nat.mul_le_mul_right sz (by omega))).symm
  obtain ⟨v, vb, hvb, hrun, hown⟩ := main
  have hmv := h.move (v := v) (vb := vb) (j := j) (o := .row sz (es.take q')) hlk hj hjb (w' := w) (Ext.refl (fun b => c.ids k = some b) w) (by
    rcases hvb with hvb | hvb
    · exact .inl hvb
    · exact .inr (.inl hvb)) hown.one (fun _ r4 => by
    refine ⟨_, V, ?_, r4 _ _ _ hE, fun u hu => e3 u (List.mem_of_mem_take hu)⟩
    rw [hlen]
    simpa [Cx.moved, Cx.with] using hown)
  refine ⟨v, w, c.moved k j vb v, by rw [he, Sem.run_bind, hrun]; rfl, ?_⟩
  rw [hd]
  exact hmv.put (some j) (d := .row j) (v := v) (by simp only [Rd]; exact ⟨by simp [Cx.moved, Cx.with], by simp [Cx.moved, Cx.with]⟩)
end
end Go.Vcg

namespace Go.Vcg
section
variable {P : Program} {T : Tb} {X : Nat → Prop} {Y : Env} {w0 w : World} {c : Cx} {s : St} {a : Act}

theorem over_nil (es : List (List D)) (i : Nat) : over es i [] = es := by simp [over]
theorem length_over {es : List (List D)} {i : Nat} {ns : List (List D)} (h : i + ns.length ≤ es.length) : (over es i ns).length = es.length := by
  simp [over]; omega

/-- Elements of an array are turned. -/
theorem Sat.wrArr (h : Sat T X Y w0 c s a w) {k sz : Nat} {es : List (List D)} (hk : s.lk k = some (.arr sz es)) {b : Nat} (hb : c.ids k = some b) {lo : Nat} {ns : List (List D)} {us : List Value} (hE : RdE (PX X c) w sz ns us) (hl : lo + ns.length ≤ es.length) {cur : Array Value} {V : TypeId} (e2 : w.heap[b]? = some (.cells cur V (0, 0))) :
    Sat T X Y w0 c { s with ob := obPut k (.arr sz (over es lo ns)) s.ob } a (w.setRow b (cur.toList.take (lo * sz) ++ us ++ cur.toList.drop (lo * sz + us.length)).toArray) := by
  obtain ⟨b', cur', E, e1, e2', e3, e4, e5⟩ := h.ob k _ hk
  obtain rfl : b' = b := Option.some.inj (e1.symm.trans hb)
  obtain ⟨rfl, rfl⟩ : cur' = cur ∧ E = V := by
    rw [e2] at e2'
    simp only [Option.some.injEq, Obj.cells.injEq] at e2'
    exact ⟨e2'.1.symm, e2'.2.1.symm⟩
  have hul : us.length = ns.length * sz := hE.length
  have hsz : lo * sz + ns.length * sz ≤ cur'.size := by rw [e3, ← Nat.add_mul]; exact Nat.mul_le_mul_right sz hl
  refine h.upd hk ((Ext.setRow w).mono fun q _ hq => by subst hq; exact hb) fun _ r4 => ?_
  refine ⟨b', _, E, hb, setRow_heap w b' cur' _ E _ e2, ?_, by rw [length_over hl]; exact e4, ?_⟩
  · rw [length_over hl]
    simp only [List.size_toArray, List.length_append, List.length_take, List.length_drop, Array.length_toList]; omega
  · have h2 := e5.drop (lo + ns.length)
    rw [Nat.add_mul, ← hul] at h2
    have := (((e5.take lo).append hE).append h2)
    simpa [over] using r4 _ _ _ this

/-- Into the room that is there. -/
theorem append_vw {U V ty e : TypeId} {i : TypeInfo} (hu : P.underlying U = some (.slice e)) (hi : P.info? e = some i) {b o n cp : Nat} {cur : Array Value} {E : TypeId} (hg : w.heap[b]? = some (.cells cur E (0, 0)))
    {ad : Addr} {m c' : Nat} {news : List Value} (hl : news.length = m * i.size) (hnews : ∀ (j : Nat) u, news[j]? = some u → w.cell? (ad.add j) = some u) (h1 : ∀ u ∈ news, u.oneCell' = true) (hroom : n + m ≤ cp) (hfit : o + n * i.size + news.length ≤ cur.size) :
    (Builtin.append_ #[U, U] ty #[.slice (some ⟨b, o, none⟩) n cp, .slice (some ad) m c']).run P w = .ok (.slice (some ⟨b, o, none⟩) (n + m) cp) (w.setRow b (cur.toList.take (o + n * i.size) ++ news ++ cur.toList.drop (o + n * i.size + news.length)).toArray) := by
  have hf := run_firstCells_some (P := P) w i.size m ad m c' news hl hnews
  have hst := run_storeCells_at (P := P) b (o + n * i.size) E news 0 cur w hg (by simpa using hfit) h1
  simp only [Nat.add_zero] at hst
  simp [Builtin.append_, run_underlying hu, sizeOf, typeInfo, hi, Builtin.lenOf, hroom, hf, addr_add, hst]

theorem append_vw0 {U ty e : TypeId} {i : TypeInfo} (hu : P.underlying U = some (.slice e)) (hi : P.info? e = some i) {b o n cp : Nat} {o' : Option Addr} {c' : Nat} (hroom : n ≤ cp) :
    (Builtin.append_ #[U, U] ty #[.slice (some ⟨b, o, none⟩) n cp, .slice o' 0 c']).run P w = .ok (.slice (some ⟨b, o, none⟩) n cp) w := by
  cases o' <;> simp [Builtin.append_, run_underlying hu, sizeOf, typeInfo, hi, Builtin.lenOf, hroom, Builtin.firstCells, loadCells, loadCellsFrom, storeCells]

theorem snd_append_vw (h : Sat T X Y w0 c s a w) {o : Oper} {U e : TypeId} {x y : Operand} {x' y' : Opd} {i : TypeInfo} (ho : o.op = .call { callee := .builtin .append, args := #[x, y], argTypes := #[U, U] })
    (hu : P.underlying U = some (.slice e)) (hi : P.info? e = some i) (hx : cOpd P U x = some x') (hy : cOpd P U y = some y') (hg : (x'.ev T s).gu = true) (hg' : (y'.ev T s).gu = true)
    {ns : List (List D)} (hn : newsOf i.size s.lk (y'.ev T s).un = some ns) {k sz lo n cp sz2 : Nat} {es : List (List D)} (hk : (x'.ev T s).un = .vw k sz lo n cp) (hlk : s.lk k = some (.arr sz2 es)) (h1 : sz = i.size) (h2 : sz2 = i.size) (h3 : n + ns.length ≤ cp) (h4 : lo + cp ≤ es.length) :
    ∃ v w', (execOp a.eval o).run P w = .ok (.value v) w' ∧ Sat T X Y w0 c ((St.mk s.tm (obPut k (.arr i.size (over es (lo + n) ns)) s.ob)).set o.dst (.vw k i.size lo (n + ns.length) cp)) (a.put o.dst v) w' := by
  subst h1
  subst h2
  have hrx := h.opdU hx hg
  have hry := h.opdU hy hg'
  have news := h.news hry hn
  rw [hk] at hrx
  simp only [Rd] at hrx
  obtain ⟨hlv, b, off, hb, hv, hoff⟩ := hrx
  obtain ⟨b', cur, E, e1, e2, e3, e4, e5⟩ := h.ob k _ hlk
  obtain rfl : b' = b := Option.some.inj (e1.symm.trans hb)
  have nothing : ∀ (o0 : Option Addr) (c' : Nat), a.eval y = .slice o0 0 c' → ns = [] → ∃ v w', (execOp a.eval o).run P w = .ok (.value v) w' ∧ Sat T X Y w0 c ((St.mk s.tm (obPut k (.arr i.size (over es (lo + n) ns)) s.ob)).set o.dst (.vw k i.size lo (n + ns.length) cp)) (a.put o.dst v) w' := by
    intro o0 c' hy0 hns
    subst hns
    refine ⟨.slice (some ⟨b', off, none⟩) n cp, w, run_append_of ho (by rw [hv, hy0]; exact append_vw0 hu hi (by simpa using h3)), ?_⟩
    have hself : Sat T X Y w0 c (St.mk s.tm (obPut k (.arr i.size (over es (lo + n) [])) s.ob)) a w := by
      rw [over_nil]
      refine h.upd hlk (Ext.refl _ _ |>.mono fun _ _ h => h) fun r3 r4 => ⟨b', cur, E, hb, e2, e3, e4, e5⟩
    exact hself.put o.dst (d := .vw k i.size lo (n + 0) cp) (by simp only [Rd]; exact ⟨hlv, b', off, hb, rfl, hoff⟩)
  rcases news with ⟨⟨o0, hy0⟩, rfl⟩ | ⟨b2, off2, cap2, vs, hyv, hc, hE, hone⟩
  · exact nothing o0 0 hy0 rfl
  · rcases Nat.eq_zero_or_pos ns.length with h0 | h0
    · exact nothing _ _ (by rw [hyv, h0]) (List.eq_nil_of_length_eq_zero h0)
    · have hoff' := hoff (by omega)
      have hl := hE.length
      have hfit : off + n * i.size + vs.length ≤ cur.size := by
        rw [hoff', hl, e3, ← Nat.add_mul, ← Nat.add_mul]; exact Nat.mul_le_mul_right _ (by omega)
      have hr := append_vw (P := P) (V := U) (ty := o.type) hu hi e2 (o := off) (n := n) (cp := cp) (ad := ⟨b2, off2, none⟩) (m := ns.length) (c' := cap2) hl (fun j u hu => by rw [addr_add]; exact hc.cell hu) hone h3 hfit
      refine ⟨_, _, run_append_of ho (by rw [hv, hyv]; exact hr), ?_⟩
      have hw := h.wrArr hlk hb hE (lo := lo + n) (by omega) e2
      rw [hoff', ← Nat.add_mul]
      exact hw.put o.dst (d := .vw k i.size lo (n + ns.length) cp) (by simp only [Rd]; exact ⟨hlv, b', _, hb, rfl, fun _ => rfl⟩)

/-! Arrays whose elements have rows of their own. -/
theorem RdSE.scr {Z : Nat → Prop} {sz : Nat} : ∀ {es : List (List D)} {vs : List Value} {bs : List Nat}, RdSE Z w sz es vs bs → RdSE Z w sz (es.map scrL) vs []
  | [], _, _, h => by simp only [RdSE] at h; simp [RdSE, h.1]
  | e :: es, _, _, h => by
    simp only [RdSE] at h
    obtain ⟨v1, v2, b1, b2, rfl, h2, h3, h4, _⟩ := h
    simp only [List.map_cons, RdSE]
    exact ⟨v1, v2, [], [], rfl, h2, RdSL.of_closed h3.scr, h4.scr, rfl⟩
theorem RdSE.overS {Z : Nat → Prop} {sz d : Nat} {es ns : List (List D)} {vs us : List Value} {bs B : List Nat} (h : RdSE Z w sz es vs bs) (hn : RdSE Z w sz ns us B) : ∃ A C, (A ++ C).Sublist bs ∧ RdSE Z w sz (over es d ns) (vs.take (d * sz) ++ us ++ vs.drop (d * sz + us.length)) (A ++ (B ++ C)) := by
  obtain ⟨A, R, rfl, h1, h2⟩ := h.split d
  obtain ⟨M, C, rfl, _, h4⟩ := h2.split ns.length
  have hul := hn.length
  refine ⟨A, C, (List.Sublist.refl _).append (List.sublist_append_right _ _), ?_⟩
  rw [List.drop_drop, List.drop_drop, ← hul] at h4
  have := h1.append (hn.append h4)
  simpa [over] using this
theorem RdSE.ones {sz : Nat} (hS : Sat T X Y w0 c s a w) : ∀ {es : List (List D)} {vs : List Value} {bs : List Nat}, RdSE (PX X c) w sz es vs bs → (es.all fun e => e.all D.cellS) = true → ∀ u ∈ vs, u.oneCell' = true
  | [], vs, bs, hE, _, u, hu => by simp only [RdSE] at hE; rw [hE.1] at hu; simp at hu
  | e :: es, vs, bs, hE, hall, u, hu => by
    simp only [RdSE] at hE
    obtain ⟨v1, v2, b1, b2, rfl, _, h1, h2, rfl⟩ := hE
    simp only [List.all_cons, Bool.and_eq_true] at hall
    rcases List.mem_append.1 hu with hu | hu
    · have key : ∀ (ds : List D) (us : List Value) (cs : List Nat), RdSL (PX X c) w none ds us cs → ds.all D.cellS = true → ∀ u ∈ us, u.oneCell' = true := by
        intro ds
        induction ds with
        | nil => intro us cs h _ u hu; simp only [RdSL] at h; rw [h.1] at hu; simp at hu
        | cons d ds ih =>
          intro us cs h ha u hu
          simp only [RdSL] at h
          simp only [List.all_cons, Bool.and_eq_true] at ha
          obtain ⟨v, r, c1, c2, rfl, g1, g2, rfl⟩ := h
          rcases List.mem_cons.1 hu with rfl | hu
          · cases d <;> first | (simp only [RdS] at g1; exact (hS.one (c := c) (g1.1.closed) (cell_cell' (by simpa [D.cellS] using ha.1))).2) | skip
            · simp only [RdS] at g1
              obtain ⟨b, T', us', q1, _⟩ := g1
              exact q1.one.2
            · simp only [RdS] at g1
              obtain ⟨g, T', u', vs', bs', rfl, _⟩ := g1
              rfl
          · exact ih _ _ g2 ha.2 u hu
      exact key e v1 b1 h1 hall.1 u hu
    · exact RdSE.ones hS h2 hall.2 u hu
theorem Sat.setArs (h : Sat T X Y w0 c s a w) {k sz : Nat} {es es' : List (List D)} (hk : s.lk k = some (.ars sz es)) {b : Nat} (hb : c.ids k = some b) {cur : Array Value} {V : TypeId} (e2 : w.heap[b]? = some (.cells cur V (0, 0))) {vs' : List Value} {bs' : List Nat}
    (hE : RdSE (PX X c) w sz es' vs' bs') (ho : Owd c k bs') (hm : es'.length ≤ maxLen) : Sat T X Y w0 c { s with ob := obPut k (.ars sz es') s.ob } a (w.setRow b vs'.toArray) := by
  have hl : c.live k = true := by rw [h.live, hk]; rfl
  refine h.upd hk ((Ext.setRow w).mono fun q _ hq => by subst hq; exact hb) fun _ _ => ?_
  exact ⟨b, vs'.toArray, V, bs', hb, setRow_heap w b cur _ V _ e2, by simpa using hE.length, hm, RdSE.mono (Ext.setRow w) (fun x _ hx => by subst hx; exact .inr (.inl ⟨k, hl, hb⟩)) (fun _ _ h => h) _ hE (fun x hx hxb => by subst hxb; exact h.owi x k k (ho.2 x hx) hl hb), ho⟩

theorem owd_mix {A B C A2 C2 : List Nat} (h : (A ++ (B ++ C)).Nodup) (hs : (A2 ++ C2).Sublist (A ++ C)) : (A2 ++ (B ++ C2)).Nodup ∧ ∀ x ∈ A2 ++ (B ++ C2), x ∈ A ++ (B ++ C) := by
  obtain ⟨a1, a2, a3⟩ := List.nodup_append.1 h
  obtain ⟨b1, b2, b3⟩ := List.nodup_append.1 a2
  have hac : (A ++ C).Nodup := List.nodup_append.2 ⟨a1, b2, fun x hx y hy => a3 x hx y (List.mem_append_right _ hy)⟩
  obtain ⟨c1, c2, c3⟩ := List.nodup_append.1 (hac.sublist hs)
  have hm : ∀ x, x ∈ A2 ∨ x ∈ C2 → x ∈ A ∨ x ∈ C := fun x hx => List.mem_append.1 (hs.subset (List.mem_append.2 hx))
  refine ⟨List.nodup_append.2 ⟨c1, List.nodup_append.2 ⟨b1, c2, fun x hx y hy e => ?_⟩, fun x hx y hy e => ?_⟩, fun x hx => ?_⟩
  · subst e
    rcases hm x (.inr hy) with h1 | h1
    · exact a3 x h1 x (List.mem_append_left _ hx) rfl
    · exact b3 x hx x h1 rfl
  · subst e
    rcases List.mem_append.1 hy with hy | hy
    · rcases hm x (.inl hx) with h1 | h1
      · exact a3 x h1 x (List.mem_append_left _ hy) rfl
      · exact b3 x hy x h1 rfl
    · exact c3 x hx x hy rfl
  · rcases List.mem_append.1 hx with hx | hx
    · rcases hm x (.inl hx) with h1 | h1
      · exact List.mem_append_left _ h1
      · exact List.mem_append_right _ (List.mem_append_right _ h1)
    · rcases List.mem_append.1 hx with hx | hx
      · exact List.mem_append_right _ (List.mem_append_left _ hx)
      · rcases hm x (.inr hx) with h1 | h1
        · exact List.mem_append_left _ h1
        · exact List.mem_append_right _ (List.mem_append_right _ h1)
theorem snd_append_vws (h : Sat T X Y w0 c s a w) {o : Oper} {U e : TypeId} {x y : Operand} {x' y' : Opd} {i : TypeInfo} (ho : o.op = .call { callee := .builtin .append, args := #[x, y], argTypes := #[U, U] })
    (hu : P.underlying U = some (.slice e)) (hi : P.info? e = some i) (hx : cOpd P U x = some x') (hy : cOpd P U y = some y') (hg : (x'.ev T s).gu = true) (hg' : (y'.ev T s).gu = true)
    {k k2 sz sz3 lo lo2 n n2 cp cp2 sz2 : Nat} {es : List (List D)} (hk : (x'.ev T s).un = .vw k sz lo n cp) (hk2 : (y'.ev T s).un = .vw k2 sz3 lo2 n2 cp2) (hlk : s.lk k = some (.ars sz2 es)) (h0 : k2 = k) (h1 : sz = i.size) (h2 : sz2 = i.size) (h2' : sz3 = i.size) (h3 : n + n2 ≤ cp) (h4 : lo + cp ≤ es.length) (h5 : n2 ≤ cp2) (h6 : lo2 + n2 ≤ es.length)
    (hall : ((es.drop lo2).take n2).all (fun e => e.all D.cellS) = true) :
    ∃ v w', (execOp a.eval o).run P w = .ok (.value v) w' ∧ Sat T X Y w0 c ((St.mk s.tm (obPut k (.ars i.size (over (over es lo2 (((es.drop lo2).take n2).map scrL)) (lo + n) ((es.drop lo2).take n2))) s.ob)).set o.dst (.vw k i.size lo (n + n2) cp)) (a.put o.dst v) w' := by
  subst h0
  subst h1
  subst h2
  subst h2'
  have hrx := h.opdU hx hg
  have hry := h.opdU hy hg'
  rw [hk] at hrx
  rw [hk2] at hry
  simp only [Rd] at hrx hry
  obtain ⟨hlv, b, off, hb, hv, hoff⟩ := hrx
  obtain ⟨_, b2, off2, hb2, hv2, hoff2⟩ := hry
  obtain rfl : b2 = b := Option.some.inj (hb2.symm.trans hb)
  obtain ⟨b', cur, E, bs, e1, e2, e3, e4, e5, e6⟩ := h.ob k2 _ hlk
  obtain rfl : b' = b2 := Option.some.inj (e1.symm.trans hb)
  have hseg : ((es.drop lo2).take n2).length = n2 := by simp; omega
  rcases Nat.eq_zero_or_pos n2 with hn2 | hn2
  · subst hn2
    refine ⟨.slice (some ⟨b', off, none⟩) n cp, w, run_append_of ho (by rw [hv, hv2]; exact append_vw0 hu hi (by simpa using h3)), ?_⟩
    have hself : Sat T X Y w0 c (St.mk s.tm (obPut k2 (.ars i.size (over (over es lo2 (((es.drop lo2).take 0).map scrL)) (lo + n) ((es.drop lo2).take 0))) s.ob)) a w := by
      simp only [List.take_zero, List.map_nil, over_nil]
      exact h.upd hlk (Ext.refl _ _ |>.mono fun _ _ h => h) fun r3 r4 => ⟨b', cur, E, bs, hb, e2, e3, e4, e5, e6⟩
    exact hself.put o.dst (d := .vw k2 i.size lo (n + 0) cp) (by simp only [Rd]; exact ⟨hlv, b', off, hb, rfl, hoff⟩)
  · have hoff' := hoff (by omega)
    have hoff2' := hoff2 (by omega)
    subst hoff' hoff2'
    obtain ⟨A, R, hbs, q1, q2⟩ := e5.split lo2
    obtain ⟨B, C, hR, q3, q4⟩ := q2.split n2
    have hone := RdSE.ones h q3 hall
    have hl := q3.length
    rw [hseg] at hl
    have hfit : lo * i.size + n * i.size + ((cur.toList.drop (lo2 * i.size)).take (n2 * i.size)).length ≤ cur.size := by
      rw [hl, e3, ← Nat.add_mul, ← Nat.add_mul]; exact Nat.mul_le_mul_right _ (by omega)
    have hc := (CellsAt.of_arr e2).sub (lo2 * i.size) (n2 * i.size)
    rw [Nat.zero_add] at hc
    have hr := append_vw (P := P) (V := U) (ty := o.type) hu hi e2 (o := lo * i.size) (n := n) (cp := cp) (ad := ⟨b', lo2 * i.size, none⟩) (m := n2) (c' := cp2) hl (fun j u hu => by rw [addr_add]; exact hc.cell hu) hone h3 hfit
    refine ⟨_, _, run_append_of ho (by rw [hv, hv2]; exact hr), ?_⟩
    -- first the old place is given up
    have hscr := q3.scr
    obtain ⟨A1, C1, hs1, g1⟩ := RdSE.overS (d := lo2) e5 hscr
    have hcur : cur.toList.take (lo2 * i.size) ++ (cur.toList.drop (lo2 * i.size)).take (n2 * i.size) ++ cur.toList.drop (lo2 * i.size + ((cur.toList.drop (lo2 * i.size)).take (n2 * i.size)).length) = cur.toList := by
      rw [hl, List.append_assoc, ← List.drop_drop, List.take_append_drop, List.take_append_drop]
    rw [hcur] at g1
    -- which blocks
    have g1' : RdSE (PX X c) w i.size (over es lo2 (((es.drop lo2).take n2).map scrL)) cur.toList (A ++ C) := by
      have hx := (q1.append (hscr.append q4))
      have e7 : es.take lo2 ++ (((es.drop lo2).take n2).map scrL ++ (es.drop lo2).drop n2) = over es lo2 (((es.drop lo2).take n2).map scrL) := by
        simp only [over, List.length_map, hseg, List.drop_drop, List.append_assoc]
      have e8 : cur.toList.take (lo2 * i.size) ++ ((cur.toList.drop (lo2 * i.size)).take (n2 * i.size) ++ (cur.toList.drop (lo2 * i.size)).drop (n2 * i.size)) = cur.toList := by
        rw [List.take_append_drop, List.take_append_drop]
      rw [e7, e8] at hx
      simpa using hx
    obtain ⟨A2, C2, hs2, g2⟩ := RdSE.overS (d := lo + n) g1' q3
    have how : Owd c k2 (A2 ++ (B ++ C2)) := by
      have hnd := e6.1
      have hmem := e6.2
      rw [hbs, hR] at hnd hmem
      obtain ⟨m1, m2⟩ := owd_mix hnd hs2
      exact ⟨m1, fun x hx => hmem x (m2 x hx)⟩
    have hlen : (over (over es lo2 (((es.drop lo2).take n2).map scrL)) (lo + n) ((es.drop lo2).take n2)).length ≤ maxLen := by
      rw [length_over (by rw [length_over (by simp; omega)]; simp; omega), length_over (by simp; omega)]; exact e4
    have hw := h.setArs hlk hb e2 g2 how hlen
    rw [← Nat.add_mul]
    exact hw.put o.dst (d := .vw k2 i.size lo (n + n2) cp) (by simp only [Rd]; exact ⟨hlv, b', _, hb, rfl, fun _ => rfl⟩)

theorem run_clear_of {o : Oper} {U : TypeId} {x : Operand} (ho : o.op = .call { callee := .builtin .clear, args := #[x], argTypes := #[U] }) {v : Value} {w' : World} (hv : (Builtin.clear_ #[U] o.type #[a.eval x]).run P w = .ok v w') : (execOp a.eval o).run P w = .ok (.value v) w' := by
  unfold execOp
  simp only [ho, resolve, invoke, builtin, Sem.run_bind, Sem.run_pure, Result.andThen_ok, List.map_toArray, List.map_cons, List.map_nil, hv]

theorem zeroCells_eq {z : Value} (hz : 0 < z.cells.size) (n : Nat) : (Builtin.zeroCells z.cells n).toList = (List.replicate n z.cells.toList).flatten := by
  unfold Builtin.zeroCells
  rw [range_cells z.cells n hz]

theorem flatten_ones {l : List Value} (h : ∀ u ∈ l, u.oneCell' = true) (n : Nat) : ∀ u ∈ (List.replicate n l).flatten, u.oneCell' = true := by
  intro u hu
  obtain ⟨l', hl', hu'⟩ := List.mem_flatten.1 hu
  rw [List.mem_replicate] at hl'
  rw [hl'.2] at hu'
  exact h u hu'

theorem snd_clr (h : Sat T X Y w0 c s a w) {o : Oper} {U e : TypeId} {x : Operand} {x' : Opd} {i : TypeInfo} {zs : List D} (ho : o.op = .call { callee := .builtin .clear, args := #[x], argTypes := #[U] })
    (hu : P.underlying U = some (.slice e)) (hi : P.info? e = some i) (hz : zeroT P e = some zs) (hx : cOpd P U x = some x') (hzl : zs.length = i.size) (h0 : 0 < i.size) (hg : (x'.ev T s).gu = true) :
    (∀ {k sz lo n cp sz2 : Nat} {es : List (List D)}, (x'.ev T s).un = .vw k sz lo n cp → s.lk k = some (.arr sz2 es) → sz = i.size → sz2 = i.size → n ≤ cp → lo + n ≤ es.length →
      ∃ v w', (execOp a.eval o).run P w = .ok (.value v) w' ∧ Sat T X Y w0 c ((St.mk s.tm (obPut k (.arr i.size (over es lo (List.replicate n zs))) s.ob)).set o.dst (.tup [])) (a.put o.dst v) w') ∧
    (∀ {sz : Nat}, (x'.ev T s).un = .fz sz [] → Yld P X c a w o (.tup [])) ∧
    (∀ {k sz lo n cp sz2 : Nat} {es : List (List D)}, (x'.ev T s).un = .vw k sz lo n cp → s.lk k = some (.ars sz2 es) → sz = i.size → sz2 = i.size → n ≤ cp → lo + n ≤ es.length →
      ∃ v w', (execOp a.eval o).run P w = .ok (.value v) w' ∧ Sat T X Y w0 c ((St.mk s.tm (obPut k (.ars i.size (over es lo (List.replicate n zs))) s.ob)).set o.dst (.tup [])) (a.put o.dst v) w') := by
  have hrx := h.opdU hx hg
  obtain ⟨it, z, hit, hz1, hz2⟩ := zeroT_spec hz
  obtain rfl : it = i := Option.some.inj (hit.symm.trans hi)
  have hzlen : z.cells.size = it.size := by
    have := (mL_read (w := w) (Z := X) (cx := none) hz2).length
    simpa [hzl] using this
  have htup : ∀ {Z : Nat → Prop} {w : World} {cx : Option Cx}, Rd Z w cx (.tup []) (.tuple #[]) := by
    intro Z w cx
    simp only [Rd]
    exact ⟨[], rfl, by simp [RdL]⟩
  refine ⟨?_, ?_, ?_⟩
  · intro k sz lo n cp sz2 es hk hlk h1 h2 h3 h4
    subst h1
    subst h2
    rw [hk] at hrx
    simp only [Rd] at hrx
    obtain ⟨hlv, b, off, hb, hv, hoff⟩ := hrx
    obtain ⟨b', cur, E, e1, e2, e3, e4, e5⟩ := h.ob k _ hlk
    obtain rfl : b' = b := Option.some.inj (e1.symm.trans hb)
    rcases Nat.eq_zero_or_pos n with hn | hn
    · subst hn
      refine ⟨.tuple #[], w, run_clear_of ho (by rw [hv]; simp [Builtin.clear_, run_underlying hu]), ?_⟩
      have hself : Sat T X Y w0 c (St.mk s.tm (obPut k (.arr it.size (over es lo (List.replicate 0 zs))) s.ob)) a w := by
        rw [List.replicate_zero, over_nil]
        refine h.upd hlk (Ext.refl _ _ |>.mono fun _ _ h => h) fun r3 r4 => ⟨b', cur, E, hb, e2, e3, e4, e5⟩
      exact hself.put o.dst htup
    · have hrow := rows_replicate (X := PX X c) (mL_read (w := w) (Z := PX X c) (cx := none) hz2) (by simpa using hzlen) n
      have hzc := zeroCells_eq (z := z) (by omega) n
      have hl := hrow.length
      simp only [List.length_replicate] at hl
      have hfit : off + (List.replicate n z.cells.toList).flatten.length ≤ cur.size := by
        rw [hl, e3, hoff (by omega), ← Nat.add_mul]; exact Nat.mul_le_mul_right _ (by omega)
      have hst := run_storeCells_at (P := P) b' off E _ 0 cur w e2 (by simpa using hfit) (flatten_ones (mL_one hz2) n)
      simp only [Nat.add_zero] at hst
      have hn0 : n ≠ 0 := by omega
      have hrun : (Builtin.clear_ #[U] o.type #[.slice (some ⟨b', off, none⟩) n cp]).run P w = .ok (.tuple #[]) (w.setRow b' (cur.toList.take off ++ (List.replicate n z.cells.toList).flatten ++ cur.toList.drop (off + (List.replicate n z.cells.toList).flatten.length)).toArray) := by
        obtain ⟨n', rfl⟩ : ∃ n', n = n' + 1 := ⟨n - 1, by omega⟩
        simp [Builtin.clear_, run_underlying hu, zeroValue, typeInfo, hi, hz1, hzc, hst]
      refine ⟨_, _, run_clear_of ho (by rw [hv]; exact hrun), ?_⟩
      have hw := h.wrArr hlk hb hrow (lo := lo) (by simpa using h4) e2
      rw [hoff (by omega)]
      exact hw.put o.dst htup
  · intro sz hk
    rw [hk] at hrx
    simp only [Rd] at hrx
    refine ⟨.tuple #[], run_clear_of ho ?_, htup⟩
    rcases hrx with ⟨⟨o0, hv⟩, _⟩ | ⟨b, off, cap, vs, hv, _⟩ <;> rw [hv]
    · cases o0 <;> simp [Builtin.clear_, run_underlying hu]
    · simp [Builtin.clear_, run_underlying hu]
  · intro k sz lo n cp sz2 es hk hlk h1 h2 h3 h4
    subst h1
    subst h2
    rw [hk] at hrx
    simp only [Rd] at hrx
    obtain ⟨hlv, b, off, hb, hv, hoff⟩ := hrx
    obtain ⟨b', cur, E, bs, e1, e2, e3, e4, e5, e6⟩ := h.ob k _ hlk
    obtain rfl : b' = b := Option.some.inj (e1.symm.trans hb)
    rcases Nat.eq_zero_or_pos n with hn | hn
    · subst hn
      refine ⟨.tuple #[], w, run_clear_of ho (by rw [hv]; simp [Builtin.clear_, run_underlying hu]), ?_⟩
      have hself : Sat T X Y w0 c (St.mk s.tm (obPut k (.ars it.size (over es lo (List.replicate 0 zs))) s.ob)) a w := by
        rw [List.replicate_zero, over_nil]
        refine h.upd hlk (Ext.refl _ _ |>.mono fun _ _ h => h) fun r3 r4 => ⟨b', cur, E, bs, hb, e2, e3, e4, e5, e6⟩
      exact hself.put o.dst htup
    · have hrow := rows_replicate (X := PX X c) (mL_read (w := w) (Z := PX X c) (cx := none) hz2) (by simpa using hzlen) n
      have hzc := zeroCells_eq (z := z) (by omega) n
      have hl := hrow.length
      simp only [List.length_replicate] at hl
      have hfit : off + (List.replicate n z.cells.toList).flatten.length ≤ cur.size := by
        rw [hl, e3, hoff (by omega), ← Nat.add_mul]; exact Nat.mul_le_mul_right _ (by omega)
      have hst := run_storeCells_at (P := P) b' off E _ 0 cur w e2 (by simpa using hfit) (flatten_ones (mL_one hz2) n)
      simp only [Nat.add_zero] at hst
      have hn0 : n ≠ 0 := by omega
      have hrun : (Builtin.clear_ #[U] o.type #[.slice (some ⟨b', off, none⟩) n cp]).run P w = .ok (.tuple #[]) (w.setRow b' (cur.toList.take off ++ (List.replicate n z.cells.toList).flatten ++ cur.toList.drop (off + (List.replicate n z.cells.toList).flatten.length)).toArray) := by
        obtain ⟨n', rfl⟩ : ∃ n', n = n' + 1 := ⟨n - 1, by omega⟩
        simp [Builtin.clear_, run_underlying hu, zeroValue, typeInfo, hi, hz1, hzc, hst]
      refine ⟨_, _, run_clear_of ho (by rw [hv]; exact hrun), ?_⟩
      obtain ⟨A, C, hs, g1⟩ := RdSE.overS (d := lo) e5 (RdSE.of_closed hrow)
      have hw := h.setArs hlk hb e2 g1 (e6.sub (by simpa using hs)) (by rw [length_over (by simpa using h4)]; exact e4)
      rw [hoff (by omega)]
      exact hw.put o.dst htup

theorem run_copy_of {o : Oper} {U : TypeId} {x y : Operand} (ho : o.op = .call { callee := .builtin .copy, args := #[x, y], argTypes := #[U, U] }) {v : Value} {w' : World} (hv : (Builtin.copy_ #[U, U] o.type #[a.eval x, a.eval y]).run P w = .ok v w') : (execOp a.eval o).run P w = .ok (.value v) w' := by
  unfold execOp
  simp only [ho, resolve, invoke, builtin, Sem.run_bind, Sem.run_pure, Result.andThen_ok, List.map_toArray, List.map_cons, List.map_nil, hv]

theorem vwCut_rd {Z : Nat → Prop} {cx : Option Cx} (n : Nat) {d : D} {v : Value} (h : Rd Z w cx d v) : ∃ v', Rd Z w cx (vwCut n d) v' ∧ (v' = v ∨ ∃ p L q, v = .slice p L q ∧ v' = .slice p (min L n) q) := by
  cases d with
  | vw k sz lo m cp =>
    cases cx with
    | none => simp only [Rd] at h
    | some c =>
      simp only [Rd] at h
      obtain ⟨h1, b, o, h2, rfl, h3⟩ := h
      exact ⟨.slice (some ⟨b, o, none⟩) (min m n) cp, by simp only [vwCut, Rd]; exact ⟨h1, b, o, h2, rfl, h3⟩, .inr ⟨_, _, _, rfl, rfl⟩⟩
  | _ => exact ⟨v, by simpa only [vwCut] using h, .inl rfl⟩
theorem snd_cpy (h : Sat T X Y w0 c s a w) {o : Oper} {U e : TypeId} {x y : Operand} {x' y' : Opd} {i : TypeInfo} (ho : o.op = .call { callee := .builtin .copy, args := #[x, y], argTypes := #[U, U] })
    (hu : P.underlying U = some (.slice e)) (hi : P.info? e = some i) (hx : cOpd P U x = some x') (hy : cOpd P U y = some y') (hg : (x'.ev T s).gu = true) (hg' : (y'.ev T s).gu = true)
    {k sz lo n cp sz2 : Nat} {ns : List (List D)} (hn : newsOf i.size s.lk (vwCut n (y'.ev T s).un) = some ns) {es : List (List D)} (hk : (x'.ev T s).un = .vw k sz lo n cp) (hlk : s.lk k = some (.arr sz2 es)) (h1 : sz = i.size) (h2 : sz2 = i.size) (h3 : n ≤ cp) (h4 : lo + n ≤ es.length) :
    ∃ v w', (execOp a.eval o).run P w = .ok (.value v) w' ∧ Sat T X Y w0 c ((St.mk s.tm (obPut k (.arr i.size (over es lo (ns.take n))) s.ob)).set o.dst (.int .i64 (min ns.length n : Nat))) (a.put o.dst v) w' := by
  subst h1
  subst h2
  have hrx := h.opdU hx hg
  have hry := h.opdU hy hg'
  obtain ⟨v', hry', hvv⟩ := vwCut_rd (w := w) n hry
  have news := h.news hry' hn
  rw [hk] at hrx
  simp only [Rd] at hrx
  obtain ⟨hlv, b, off, hb, hv, hoff⟩ := hrx
  obtain ⟨b', cur, E, e1, e2, e3, e4, e5⟩ := h.ob k _ hlk
  obtain rfl : b' = b := Option.some.inj (e1.symm.trans hb)
  have nothing : (∃ o0 L c', a.eval y = .slice o0 L c' ∧ min L n = 0) → min ns.length n = 0 → ∃ v w', (execOp a.eval o).run P w = .ok (.value v) w' ∧ Sat T X Y w0 c ((St.mk s.tm (obPut k (.arr i.size (over es lo (ns.take n))) s.ob)).set o.dst (.int .i64 (min ns.length n : Nat))) (a.put o.dst v) w' := by
    rintro ⟨o0, L, c', hy0, hL⟩ hm
    have ht : ns.take n = [] := by
      apply List.eq_nil_of_length_eq_zero
      rw [List.length_take, Nat.min_comm]; exact hm
    have hm' : Nat.min L n = 0 := hL
    refine ⟨.int .i64 0, w, run_copy_of ho (by rw [hv, hy0]; cases o0 <;> simp [Builtin.copy_, run_underlying hu, sizeOf, typeInfo, hi, Builtin.lenOf, hm', Builtin.firstCells, loadCells, loadCellsFrom, storeCells, goInt]), ?_⟩
    have hself : Sat T X Y w0 c (St.mk s.tm (obPut k (.arr i.size (over es lo (ns.take n))) s.ob)) a w := by
      rw [ht, over_nil]
      refine h.upd hlk (Ext.refl _ _ |>.mono fun _ _ h => h) fun r3 r4 => ⟨b', cur, E, hb, e2, e3, e4, e5⟩
    exact hself.put o.dst (by rw [hm]; simp only [Rd]; rfl)
  rcases news with ⟨⟨o0, hy0⟩, hns⟩ | ⟨b2, off2, cap2, vs, hyv, hc, hE, hone⟩
  · rcases hvv with hvv | ⟨p, L, q, hv1, hv2⟩
    · exact nothing ⟨o0, 0, 0, by rw [← hvv, hy0], by simp⟩ (by rw [hns]; simp)
    · rw [hy0] at hv2
      injection hv2 with _ hL _
      exact nothing ⟨p, L, q, hv1, hL.symm⟩ (by rw [hns]; simp)
  · obtain ⟨L, hyv, hLn⟩ : ∃ L, a.eval y = .slice (some ⟨b2, off2, none⟩) L cap2 ∧ min L n = min ns.length n := by
      rcases hvv with hvv | ⟨p, L, q, hv1, hv2⟩
      · exact ⟨ns.length, by rw [← hvv, hyv], rfl⟩
      · rw [hyv] at hv2
        injection hv2 with hp hL hq
        exact ⟨L, by rw [hv1, hp, hq], by rw [hL]; omega⟩
    rcases Nat.eq_zero_or_pos (min ns.length n) with h0 | h0
    · exact nothing ⟨_, _, _, hyv, by rw [hLn]; exact h0⟩ h0
    · have hoff' := hoff (by omega)
      have hE' := hE.take n
      have hl := hE'.length
      have hlt : (ns.take n).length = min ns.length n := by rw [List.length_take, Nat.min_comm]
      have hvl : (vs.take (n * i.size)).length = min ns.length n * i.size := by rw [hl, hlt]
      have hcl : ∀ (j : Nat) u, (vs.take (n * i.size))[j]? = some u → w.cell? ((⟨b2, off2, none⟩ : Addr).add j) = some u := fun j u hu => by
        rw [List.getElem?_take] at hu
        split at hu
        · rw [addr_add]; exact hc.cell hu
        · cases hu
      have hone' : ∀ u ∈ vs.take (n * i.size), u.oneCell' = true := fun u hu => hone u (List.mem_of_mem_take hu)
      have hfit : off + (vs.take (n * i.size)).length ≤ cur.size := by
        rw [hvl, hoff', e3, ← Nat.add_mul]; exact Nat.mul_le_mul_right _ (by omega)
      have hf := run_firstCells_some (P := P) w i.size (min ns.length n) ⟨b2, off2, none⟩ L cap2 (vs.take (n * i.size)) hvl hcl
      have hst := run_storeCells_at (P := P) b' off E _ 0 cur w e2 (by simpa using hfit) hone'
      simp only [Nat.add_zero] at hst
      have hmin : Nat.min L n = min ns.length n := hLn
      have hrun : (Builtin.copy_ #[U, U] o.type #[.slice (some ⟨b', off, none⟩) n cp, .slice (some ⟨b2, off2, none⟩) L cap2]).run P w = .ok (.int .i64 (min ns.length n : Nat)) (w.setRow b' (cur.toList.take off ++ vs.take (n * i.size) ++ cur.toList.drop (off + (vs.take (n * i.size)).length)).toArray) := by
        simp [Builtin.copy_, run_underlying hu, sizeOf, typeInfo, hi, Builtin.lenOf, hmin, hf, hst, goInt]
      refine ⟨_, _, run_copy_of ho (by rw [hv, hyv]; exact hrun), ?_⟩
      have hw := h.wrArr hlk hb hE' (lo := lo) (by rw [hlt]; omega) e2
      rw [hoff']
      exact hw.put o.dst (by simp only [Rd])
end
end Go.Vcg

namespace Go.Vcg
section
variable {P : Program} {T : Tb} {X : Nat → Prop} {Y : Env} {w0 w : World} {c : Cx} {s : St} {a : Act}

theorem run_appendz_of {o : Oper} {U V : TypeId} {x y : Operand} (ho : o.op = .call { callee := .builtin .append, args := #[x, y], argTypes := #[U, V] }) {v : Value} {w' : World} (hv : (Builtin.append_ #[U, V] o.type #[a.eval x, a.eval y]).run P w = .ok v w') : (execOp a.eval o).run P w = .ok (.value v) w' := by
  unfold execOp
  simp only [ho, resolve, invoke, builtin, Sem.run_bind, Sem.run_pure, Result.andThen_ok, List.map_toArray, List.map_cons, List.map_nil, hv]

theorem run_appz_grow {t u ty e : TypeId} {i : TypeInfo} {z : Value} (ht : P.underlying t = some (.slice e)) (hu : P.underlying u = some (.int .i64)) (hi : P.info? e = some i) (hz : i.zero = some z) (hzs : z.cells.size = i.size) (h0 : 0 < i.size)
    {base : Option Addr} {sLen sCap n : Nat} {olds : List Value} (hf : ∀ w' : World, w'.heap = w.heap → (Builtin.firstCells i.size sLen (.slice base sLen sCap)).run P w' = .ok olds.toArray w')
    (hg : sCap < sLen + n) (hn0 : 0 < n) (h63 : ((sLen + n : Nat) : Int) ≤ 9223372036854775807) (hb : (sLen + n) * i.bytes ≤ 140737488355328) (hcap : sCap < sLen + n) :
    (Builtin.append_ #[t, u] ty #[.slice base sLen sCap, .int .i64 n]).run P w =
      .ok (.slice (some ⟨w.heap.size, 0, none⟩) (sLen + n) (grownCap w (sLen + n) sCap e))
        (w.drew.alloc (.cells (olds.toArray ++ Builtin.zeroCells z.cells n ++ Builtin.zeroCells z.cells (grownCap w (sLen + n) sCap e - (sLen + n))) e)) := by
  have hw : IntKind.i64.wrap (n : Int) = n := wrap_inR (k := .i64) (by simp only [inR]; omega)
  have hn : ¬ (sLen + n ≤ sCap) := by omega
  have hneg : ¬ ((n : Int) < 0) := by omega
  have h63' : ¬ (9223372036854775807 < ((sLen : Int) + (n : Int))) := by omega
  have hfit := growslice_fits (need := sLen + n) (old := sCap) (bytes := i.bytes) hcap hb
  have h48' : ¬ (281474976710656 < Builtin.nextslicecap (sLen + n) sCap * i.bytes) := by omega
  have hnb : n * i.bytes ≤ (sLen + n) * i.bytes := Nat.mul_le_mul_right _ (by omega)
  have h48'' : ¬ (281474976710656 < (n : Int) * (i.bytes : Int)) := by
    have : ((n * i.bytes : Nat) : Int) ≤ 140737488355328 := by omega
    rw [Int.natCast_mul] at this
    omega
  have hns : ¬ (n = 0 ∨ i.size = 0) := by omega
  have hfo := hf w.drew rfl
  simp [Builtin.append_, run_underlying ht, run_underlying hu, asInt, asIntOf, hw, hneg, sizeOf, typeInfo, zeroValue, hi, hz, hn, h63', h48', h48'', hns, Question.forced, hfo, newRow, grownCap]
  intro hq
  rcases Nat.mul_eq_zero.1 hq with q | q <;> omega

theorem firstCells_none {sz n cap : Nat} (h : n = 0) : ∀ w : World, (Builtin.firstCells sz n (.slice none n cap)).run P w = .ok ([] : List Value).toArray w := fun w => by
  simp [Builtin.firstCells]

/-- n zeros behind what is there, in a new block. -/
theorem appz_row {t u ty e : TypeId} {i : TypeInfo} {z : Value} {zs : List D} (ht : P.underlying t = some (.slice e)) (hu : P.underlying u = some (.int .i64)) (hi : P.info? e = some i) (hz : i.zero = some z) (hzs : z.cells.size = i.size) (h0 : 0 < i.size) (hm : mL zs z.cells.toList = true)
    {base : Option Addr} {sLen sCap n : Nat} {olds : List Value} {es : List (List D)} (hf : ∀ w' : World, w'.heap = w.heap → (Builtin.firstCells i.size sLen (.slice base sLen sCap)).run P w' = .ok olds.toArray w')
    (hE : RdE (PX X c) w i.size es olds) (hl : es.length = sLen) (hone : ∀ u ∈ olds, u.oneCell' = true) (hn0 : 0 < n) (h63 : ((sLen + n : Nat) : Int) ≤ 9223372036854775807) (hb : (sLen + n) * i.bytes ≤ 140737488355328) (hcap : sCap < sLen + n) :
    ∃ v' w' vs, (Builtin.append_ #[t, u] ty #[.slice base sLen sCap, .int .i64 n]).run P w = .ok v' w' ∧ OwnsR w' e i.size (some w.heap.size) v' (sLen + n) vs ∧ RdE (PX X c) w i.size (es ++ List.replicate n zs) vs ∧ (∀ u ∈ vs, u.oneCell' = true) ∧ Ext (fun _ => False) w w' ∧ w.heap.size < w'.heap.size := by
  have hrun := run_appz_grow (P := P) (w := w) (ty := ty) ht hu hi hz hzs h0 hf hcap hn0 h63 hb hcap
  have hzc := zeroCells_eq (z := z) (by omega) n
  have hrow := rows_replicate (X := PX X c) (mL_read (w := w) (Z := PX X c) (cx := none) hm) (by simpa using hzs) n
  have hol := hE.length
  have hzl := hrow.length
  simp only [List.length_replicate] at hzl
  have hge := grownCap_ge w (sLen + n) sCap e
  refine ⟨_, _, olds ++ (List.replicate n z.cells.toList).flatten, hrun, ⟨?_, .inr ⟨w.heap.size, _, _, rfl, rfl, heap_alloc_new w.drew _, hge, grownCap_le_maxLen w (sLen + n) sCap e (by simp only [maxLen]; omega), ?_, ?_⟩⟩, hE.append hrow, fun u hu => ?_, ⟨rfl, rfl, rfl, by simp, fun k hk _ => RowKit.Below.heap_alloc w.drew _ k hk⟩, by simp⟩
  · rw [List.length_append, hol, hzl, hl, Nat.add_mul]
  · simp only [Array.size_append, List.size_toArray, size_zeroCells, hzs, hol, hl, ← Nat.add_mul]
    congr 1; omega
  · simp only [Array.toList_append, List.append_assoc, hzc]
    rw [← List.append_assoc]
    have : (olds ++ (List.replicate n z.cells.toList).flatten).length = (sLen + n) * i.size := by rw [List.length_append, hol, hzl, hl, Nat.add_mul]
    rw [← this]
    exact List.take_left
  · rcases List.mem_append.1 hu with hu | hu
    · exact hone u hu
    · exact flatten_ones (mL_one hm) n u hu

theorem snd_appz (h : Sat T X Y w0 c s a w) {o : Oper} {U V e : TypeId} {x y : Operand} {x' y' : Opd} {i : TypeInfo} {zs : List D} (ho : o.op = .call { callee := .builtin .append, args := #[x, y], argTypes := #[U, V] })
    (hu : P.underlying U = some (.slice e)) (hv : P.underlying V = some (.int .i64)) (hi : P.info? e = some i) (hz : zeroT P e = some zs) (hx : cOpd P U x = some x') (hy : cOpd P V y = some y') (hzl : zs.length = i.size) (h0 : 0 < i.size) (hg : (x'.ev T s).gu = true) (hg' : (y'.ev T s).gu = true)
    {j : Nat} (hd : o.dst = some j) {m : Int} (hm : (y'.ev T s).un = .int .i64 m) (hm0 : 0 ≤ m) :
    (∀ z, (x'.ev T s).un = .nl z → m * i.bytes ≤ 140737488355328 → m ≤ 9223372036854775807 → s.lk j = none → j < baseN →
      ∃ v w' c', (execOp a.eval o).run P w = .ok (.value v) w' ∧ Sat T X Y w0 c' ((St.mk s.tm (obPut j (.row i.size (List.replicate m.toNat zs)) s.ob)).set (some j) (.row j)) (a.put o.dst v) w') ∧
    (∀ {k sz lo l cp sz2 : Nat} {es : List (List D)}, (x'.ev T s).un = .vw k sz lo l cp → s.lk k = some (.arr sz2 es) → sz = i.size → sz2 = i.size → cp < l + m.toNat → l ≤ cp → (l + m) * i.bytes ≤ 140737488355328 → l + m ≤ 9223372036854775807 → lo + l ≤ es.length → (((es.drop lo).take l).all fun e => e.all D.cell) = true → s.lk j = none → j < baseN →
      ∃ v w' c', (execOp a.eval o).run P w = .ok (.value v) w' ∧ Sat T X Y w0 c' ((St.mk s.tm (obPut j (.row i.size ((es.drop lo).take l ++ List.replicate m.toNat zs)) s.ob)).set (some j) (.row j)) (a.put o.dst v) w') := by
  have hrx := h.opdU hx hg
  have hry := h.opdU hy hg'
  rw [hm] at hry
  simp only [Rd] at hry
  obtain ⟨n, rfl⟩ := Int.eq_ofNat_of_zero_le hm0
  obtain ⟨it, z, hit, hz1, hz2⟩ := zeroT_spec hz
  obtain rfl : it = i := Option.some.inj (hit.symm.trans hi)
  have hzlen : z.cells.size = it.size := by
    have := (mL_read (w := w) (Z := X) (cx := none) hz2).length
    simpa [hzl] using this
  have fin : ∀ {v' : Value} {w' : World} {vs : List Value} {es' : List (List D)} {vb : Option Nat}, (execOp a.eval o).run P w = .ok (.value v') w' → OwnsR w' e it.size vb v' es'.length vs → RdE (PX X c) w it.size es' vs → (∀ u ∈ vs, u.oneCell' = true) → Ext (fun _ => False) w w' → (∀ q, vb = some q → w.heap.size ≤ q ∧ q < w'.heap.size) → s.lk j = none → j < baseN →
      ∃ v w' c', (execOp a.eval o).run P w = .ok (.value v) w' ∧ Sat T X Y w0 c' ((St.mk s.tm (obPut j (.row it.size es') s.ob)).set (some j) (.row j)) (a.put o.dst v) w' := by
    intro v' w' vs es' vb hr hown hE hone hext hq hj hjb
    have hnew := h.new (k := j) (o := .row it.size es') hj hjb (w' := w') hext (b := vb) hq (v := v') hown.one (fun _ r4 => by
      refine ⟨vs, e, ?_, r4 _ _ _ hE, hone⟩
      simpa [Cx.with] using hown)
    refine ⟨v', w', c.with j vb v', hr, ?_⟩
    rw [hd]
    exact hnew.put (some j) (d := .row j) (v := v') (by simp only [Rd]; exact ⟨by simp [Cx.with], by simp [Cx.with]⟩)
  constructor
  · intro z0 hk hb h63 hj hjb
    rw [hk] at hrx
    simp only [Rd] at hrx
    rcases Nat.eq_zero_or_pos n with hn | hn
    · subst hn
      have hw : IntKind.i64.wrap 0 = 0 := wrap_inR (k := .i64) (by simp only [inR]; omega)
      have hr : (Builtin.append_ #[U, V] o.type #[.slice none 0 0, .int .i64 0]).run P w = .ok (.slice none 0 0) w := by
        simp [Builtin.append_, run_underlying hu, run_underlying hv, asInt, asIntOf, hw, sizeOf, typeInfo, hi]
      exact fin (v' := .slice none 0 0) (vs := []) (es' := List.replicate (Int.toNat ((0 : Nat) : Int)) zs) (vb := none) (run_appendz_of ho (by rw [hrx, hry]; exact hr)) (OwnsR.nil w e it.size none) (by simp [RdE]) (by simp) (Ext.refl _ _) (by simp) hj hjb
    · obtain ⟨v', w', vs, g1, g2, g3, g4, g5, g6⟩ := appz_row (P := P) (X := X) (c := c) (w := w) (ty := o.type) (base := none) (sLen := 0) (sCap := 0) (n := n) (olds := []) (es := []) hu hv hi hz1 hzlen h0 hz2 (fun w' _ => firstCells_none rfl w') (by simp [RdE]) rfl (by simp) hn (by omega) (by
        have : ((n * it.bytes : Nat) : Int) ≤ 140737488355328 := by rw [Int.natCast_mul]; exact hb
        rw [Nat.zero_add]; omega) (by omega)
      refine fin (v' := v') (es' := List.replicate (Int.toNat (n : Int)) zs) (run_appendz_of ho (by rw [hrx, hry]; exact g1)) (by simpa using g2) (by simpa using g3) g4 g5 (fun q hq => by
        obtain rfl := Option.some.inj hq
        exact ⟨Nat.le_refl _, g6⟩) hj hjb
  · intro k sz lo l cp sz2 es hk hlk h1 h2 h3 h3' hb h63 hle hall hj hjb
    subst h1
    subst h2
    rw [hk] at hrx
    simp only [Rd] at hrx
    obtain ⟨hlv, b, off, hbb, hvv, hoff⟩ := hrx
    obtain ⟨b', cur, E, e1, e2, e3, e4, e5⟩ := h.ob k _ hlk
    obtain rfl : b' = b := Option.some.inj (e1.symm.trans hbb)
    simp only [Int.toNat_natCast] at h3
    have hE := (e5.drop lo).take l
    have hlen : ((es.drop lo).take l).length = l := by simp; omega
    have hone := h.rdE_ones hE hall
    have hvl := hE.length
    rw [hlen] at hvl
    have hf : ∀ w' : World, w'.heap = w.heap → (Builtin.firstCells it.size l (.slice (some ⟨b', off, none⟩) l cp)).run P w' = .ok ((cur.toList.drop (lo * it.size)).take (l * it.size)).toArray w' := by
      intro w' hw'
      refine run_firstCells_some (P := P) w' it.size l ⟨b', off, none⟩ l cp _ hvl fun j u hu => ?_
      rcases Nat.eq_zero_or_pos l with hl0 | hl0
      · subst hl0; simp at hu
      · rw [hoff (by omega), addr_add]
        have hc : CellsAt w' b' (lo * it.size) ((cur.toList.drop (lo * it.size)).take (l * it.size)) := by
          have := (CellsAt.of_arr (w := w') (b := b') (by rw [hw']; exact e2)).sub (lo * it.size) (l * it.size)
          simpa using this
        exact hc.cell hu
    obtain ⟨v', w', vs, g1, g2, g3, g4, g5, g6⟩ := appz_row (P := P) (X := X) (c := c) (w := w) (ty := o.type) (n := n) hu hv hi hz1 hzlen h0 hz2 hf hE hlen hone (by omega) (by omega) (by
      have : (((l + n) * it.bytes : Nat) : Int) ≤ 140737488355328 := by rw [Int.natCast_mul, Int.natCast_add]; exact hb
      omega) h3
    refine fin (v' := v') (es' := (es.drop lo).take l ++ List.replicate (Int.toNat (n : Int)) zs) (run_appendz_of ho (by rw [hvv, hry]; exact g1)) (by rw [List.length_append, hlen, List.length_replicate]; simpa using g2) (by simpa using g3) g4 g5 (fun q hq => by
      obtain rfl := Option.some.inj hq
      exact ⟨Nat.le_refl _, g6⟩) hj hjb
end
end Go.Vcg

namespace Go.Vcg
section
variable {P : Program} {T : Tb} {X : Nat → Prop} {Y : Env} {w0 w : World} {c : Cx} {s : St} {a : Act}

/-! ### Rows that stay as they are -/
theorem Sat.row_open (h : Sat T X Y w0 c s a w) {Z : Nat → Prop} (hZ : ∀ b, b < w.heap.size → Z b → PX X c b) {k : Nat} (hk' : ∀ b, c.ids k = some b → ¬ Z b) {sz : Nat} {es : List (List D)} (hk : s.lk k = some (.row sz es)) : Rd Z w none (.fz sz es) (c.rv k) := by
  obtain ⟨vs, U, e1, e2, e3⟩ := h.ob k _ hk
  simp only [Rd]
  rcases e1.2 with ⟨g1, g2, _⟩ | ⟨g, cap, cur, g1, g2, g3, g4, g5, g6, g7⟩
  · exact .inl ⟨g1, List.eq_nil_of_length_eq_zero g2⟩
  · refine .inr ⟨g, 0, cap, vs, g1, g4, g5, hk' g g2, ⟨cur, U, (0, 0), g3, fun j v hv => ?_⟩, RdE.mono (Ext.refl (fun _ => False) w) (fun _ _ h => h.elim) hZ _ e2, e3⟩
    rw [← g7, List.getElem?_take] at hv
    split at hv
    · simpa using hv
    · simp at hv

mutual
theorem RdS.fzs {X Z : Nat → Prop} (hZ : ∀ b, b < w.heap.size → Z b → X b) : ∀ (d : D) {v : Value} {bs : List Nat}, RdS X w none d v bs → (∀ b ∈ bs, ¬ Z b) → Rd Z w none d.fzs v
  | .sub sz es, v, bs, h, hb => by
    simp only [RdS] at h
    obtain ⟨b, V, vs, h1, h2, h3, rfl⟩ := h
    simp only [D.fzs, Rd]
    rcases h1.2 with ⟨g1, g2, _⟩ | ⟨g, cap, cur, g1, g2, g3, g4, g5, g6, g7⟩
    · exact .inl ⟨g1, List.eq_nil_of_length_eq_zero g2⟩
    · exact .inr ⟨g, 0, cap, vs, g1, g4, g5, hb g (by simp [g2]), h1.cellsAt g2, RdE.mono (Ext.refl (fun _ => False) w) (fun _ _ h => h.elim) hZ _ h2, h3⟩
  | .sbx cs, v, bs, h, hb => by
    simp only [RdS] at h
    obtain ⟨g, V, u, vs, bs', rfl, h2, h3, _, rfl⟩ := h
    simp only [D.fzs, Rd]
    have h4 := RdSL.fzs hZ cs h3 (fun b hb' => hb b (by simp [hb']))
    have hl := h4.length
    refine ⟨g, 0, vs, by simp, hb g (by simp), by simp, h2.cellsAt rfl, ?_⟩
    simp only [RdE]
    exact ⟨vs, [], by simp, by rw [hl, fzsL_length], h4, rfl⟩
  | .nl sz, v, bs, h, _ => by
    simp only [RdS, Rd] at h
    simp only [D.fzs, Rd]
    exact .inl ⟨⟨none, h.1⟩, trivial⟩
  | .int _ _, _, _, h, _ | .bool _, _, _, h, _ | .str _, _, _, h, _ | .nilp, _, _, h, _ | .agg _, _, _, h, _ | .tup _, _, _, h, _ | .fz _ _, _, _, h, _ | .clo _ _, _, _, h, _ | .own _ _, _, _, h, _ | .row _, _, _, h, _ | .elr _ _ _ _, _, _, h, _ | .ad _ _ _ _, _, _, h, _ | .any, _, _, h, _ | .wh _ _, _, _, h, _ | .ub, _, _, h, _ | .err _, _, _, h, _ | .xad _, _, _, h, _ | .vw _ _ _ _ _, _, _, h, _ => by
    simp only [D.fzs]
    exact Rd.mono (Ext.refl (fun _ => False) w) (fun _ _ h => h.elim) hZ _ (c := none) (c' := none) trivial ((RdS.of rfl).1 h).1
theorem RdSL.fzs {X Z : Nat → Prop} (hZ : ∀ b, b < w.heap.size → Z b → X b) : ∀ (ds : List D) {vs : List Value} {bs : List Nat}, RdSL X w none ds vs bs → (∀ b ∈ bs, ¬ Z b) → RdL Z w none (fzsL ds) vs
  | [], _, _, h, _ => by simp only [RdSL] at h; simp [fzsL, RdL, h.1]
  | d :: ds, _, _, h, hb => by
    simp only [RdSL] at h
    obtain ⟨v, r, b1, b2, rfl, h2, h3, rfl⟩ := h
    simp only [fzsL, RdL]
    exact ⟨v, r, rfl, RdS.fzs hZ d h2 (fun b hb' => hb b (by simp [hb'])), RdSL.fzs hZ ds h3 (fun b hb' => hb b (by simp [hb']))⟩
theorem fzsL_length : ∀ ds : List D, (fzsL ds).length = ds.length
  | [] => rfl
  | d :: ds => by simp [fzsL, fzsL_length ds]
end
theorem RdSE.out {X Z : Nat → Prop} (hZ : ∀ b, b < w.heap.size → Z b → X b) {sz : Nat} : ∀ {es : List (List D)} {vs : List Value} {bs : List Nat}, RdSE X w sz es vs bs → (∀ b ∈ bs, ¬ Z b) → RdE Z w sz (outE es) vs
  | [], _, _, h, _ => by simp only [RdSE] at h; simp [outE, RdE, h.1]
  | e :: es, _, _, h, hb => by
    simp only [RdSE] at h
    obtain ⟨v1, v2, b1, b2, rfl, h2, h3, h4, rfl⟩ := h
    simp only [outE, RdE]
    exact ⟨v1, v2, rfl, h2, RdSL.fzs hZ e h3 (fun b hb' => hb b (by simp [hb'])), RdSE.out hZ h4 (fun b hb' => hb b (by simp [hb']))⟩
theorem outE_length : ∀ es : List (List D), (outE es).length = es.length
  | [] => rfl
  | e :: es => by simp [outE, outE_length es]
theorem Sat.rws_open (h : Sat T X Y w0 c s a w) {Z : Nat → Prop} (hZ : ∀ b, b < w.heap.size → Z b → PX X c b) {k : Nat} (hk' : ∀ b, c.ids k = some b ∨ c.ow b = some k → ¬ Z b) {sz : Nat} {es : List (List D)} (hk : s.lk k = some (.rws sz es)) : Rd Z w none (.fz sz (outE es)) (c.rv k) := by
  obtain ⟨vs, U, bs, e1, e2, e3, e4⟩ := h.ob k _ hk
  simp only [Rd]
  rcases e1.2 with ⟨g1, g2, _⟩ | ⟨g, cap, cur, g1, g2, g3, g4, g5, g6, g7⟩
  · exact .inl ⟨g1, List.eq_nil_of_length_eq_zero (by rw [outE_length]; exact g2)⟩
  · exact .inr ⟨g, 0, cap, vs, by rw [outE_length]; exact g1, by rw [outE_length]; exact g4, g5, hk' g (.inl g2), e1.cellsAt g2, RdSE.out hZ e2 (fun b hb => hk' b (.inr (e4.2 b hb))), e3⟩

def Cx.drops (c : Cx) (ks : List Nat) : Cx := { c with live := fun j => c.live j && !ks.contains j, ow := fun b => match c.ow b with | some k => if ks.contains k = true then none else some k | none => none }
theorem drops_ow {ks : List Nat} {b k : Nat} (h : (c.drops ks).ow b = some k) : c.ow b = some k ∧ ks.contains k = false := by
  simp only [Cx.drops] at h
  split at h
  · rename_i k' hk'
    split at h
    · cases h
    · rename_i hn
      cases h
      exact ⟨hk', by simpa using hn⟩
  · cases h
theorem drops_ow' {ks : List Nat} {b k : Nat} (h : c.ow b = some k) (hk : ks.contains k = false) : (c.drops ks).ow b = some k := by
  simp only [Cx.drops, h, hk, Bool.false_eq_true, if_false]

theorem Sat.drops_px (c : Cx) (ks : List Nat) : ∀ b, PX X (c.drops ks) b → PX X c b := by
  intro b hp
  rcases hp with hp | ⟨k, hk, hb⟩ | ⟨k, hk⟩
  · exact .inl hp
  · simp only [Cx.drops, Bool.and_eq_true] at hk
    exact .inr (.inl ⟨k, hk.1, hb⟩)
  · exact .inr (.inr ⟨k, (drops_ow hk).1⟩)

theorem Sat.drops_row (h : Sat T X Y w0 c s a w) {ks : List Nat} {k : Nat} (hk : k ∈ ks) (hl : c.live k = true) : ∀ b, c.ids k = some b ∨ c.ow b = some k → ¬ PX X (c.drops ks) b := by
  intro b hb hp
  have h1 : ks.contains k = true := by simpa using hk
  rcases hp with hp | ⟨j, hj, hjb⟩ | ⟨j, hj⟩
  · rcases hb with hb | hb
    · exact (h.fresh k b hl hb).2 hp
    · exact (h.owf b k hb).2.1 hp
  · simp only [Cx.drops, Bool.and_eq_true, Bool.not_eq_true'] at hj
    rcases hb with hb | hb
    · have := h.inj j k b hj.1 hl hjb hb
      subst this
      rw [h1] at hj; exact absurd hj.2 (by simp)
    · exact h.owi b k j hb hj.1 hjb
  · obtain ⟨h2, h3⟩ := drops_ow hj
    rcases hb with hb | hb
    · exact h.owi b j k h2 hl hb
    · rw [hb] at h2
      obtain rfl := Option.some.inj h2
      rw [h1] at h3; cases h3

mutual
/-- Where all its rows are let go. -/
theorem Sat.out' (h : Sat T X Y w0 c s a w) {ks : List Nat} : ∀ (d : D) {v : Value}, (∀ k ∈ d.rows, k ∈ ks) → Rd (PX X c) w (some c) d v → (d.out s.lk).clos = true → Rd (PX X (c.drops ks)) w none (d.out s.lk) v
  | .int _ _, v, _, hr, _ => by simpa only [D.out, Rd] using hr
  | .bool _, v, _, hr, _ => by simpa only [D.out, Rd] using hr
  | .str _, v, _, hr, _ => by simpa only [D.out, Rd] using hr
  | .nilp, v, _, hr, _ => by simpa only [D.out, Rd] using hr
  | .nl sz, v, _, hr, _ => by simp only [D.out, Rd] at hr ⊢; exact .inl ⟨⟨none, hr⟩, trivial⟩
  | .any, v, _, _, _ => by simp only [D.out, Rd]
  | .fz sz es, v, _, hr, _ => by
    simp only [D.out]
    have := Rd.mono (Ext.refl (fun _ => False) w) (fun _ _ h => h.elim) (fun b _ hp => Sat.drops_px c ks b hp) (.fz sz es) (c := some c) (c' := some c) (Cx.le_refl _) hr
    simpa only [Rd] using this
  | .ad sz es i o, v, _, hr, _ => by
    simp only [D.out]
    have := Rd.mono (Ext.refl (fun _ => False) w) (fun _ _ h => h.elim) (fun b _ hp => Sat.drops_px c ks b hp) (.ad sz es i o) (c := some c) (c' := some c) (Cx.le_refl _) hr
    simpa only [Rd] using this
  | .xad cs, v, _, hr, _ => by
    simp only [D.out]
    have := Rd.mono (Ext.refl (fun _ => False) w) (fun _ _ h => h.elim) (fun b _ hp => Sat.drops_px c ks b hp) (.xad cs) (c := some c) (c' := some c) (Cx.le_refl _) hr
    simpa only [Rd] using this
  | .agg cs, v, hn, hr, hc => by
    simp only [D.out, Rd, D.rows, D.clos] at hn hr hc ⊢
    obtain ⟨vs, h1, h2⟩ := hr
    exact ⟨vs, h1, Sat.outs' h cs hn h2 hc⟩
  | .tup cs, v, hn, hr, hc => by
    simp only [D.out, Rd, D.rows, D.clos] at hn hr hc ⊢
    obtain ⟨vs, h1, h2⟩ := hr
    exact ⟨vs, h1, Sat.outs' h cs hn h2 hc⟩
  | .clo f cs, v, hn, hr, hc => by
    simp only [D.out, Rd, D.rows, D.clos] at hn hr hc ⊢
    obtain ⟨vs, h1, h2⟩ := hr
    exact ⟨vs, h1, Sat.outs' h cs hn h2 hc⟩
  | .own k o, v, _, _, hc => by simp [D.out, D.clos] at hc
  | .vw k sz lo n cp, v, _, _, hc => by simp [D.out, D.clos] at hc
  | .ub, v, _, hr, _ => by simpa only [D.out, Rd] using hr
  | .err _, v, _, hr, _ => by simpa only [D.out, Rd] using hr
  | .elr k sz i o, v, _, _, hc => by simp [D.out, D.clos] at hc
  | .wh g d, v, _, _, hc => by simp [D.out, D.clos] at hc
  | .sub _ _, v, _, hr, _ => by simp only [Rd] at hr
  | .sbx _, v, _, hr, _ => by simp only [Rd] at hr
  | .row k, v, hn, hr, hc => by
    simp only [D.out] at hc ⊢
    simp only [D.rows, List.mem_singleton, forall_eq] at hn
    split at hc
    · rename_i sz es hk
      simp only [Rd] at hr
      rw [hr.2]
      exact h.row_open (fun b _ hp => Sat.drops_px c ks b hp) (fun b hb => h.drops_row (by simpa using hn) hr.1 b (.inl hb)) hk
    · rename_i sz es hk
      simp only [Rd] at hr
      rw [hr.2]
      exact h.rws_open (fun b _ hp => Sat.drops_px c ks b hp) (h.drops_row (by simpa using hn) hr.1) hk
    · simp [D.clos] at hc
theorem Sat.outs' (h : Sat T X Y w0 c s a w) {ks : List Nat} : ∀ (ds : List D) {vs : List Value}, (∀ k ∈ rowsL ds, k ∈ ks) → RdL (PX X c) w (some c) ds vs → closL (outL s.lk ds) = true → RdL (PX X (c.drops ks)) w none (outL s.lk ds) vs
  | [], _, _, hr, _ => by simpa only [outL, RdL] using hr
  | d :: ds, _, hn, hr, hc => by
    simp only [outL, RdL, rowsL, closL, Bool.and_eq_true, List.mem_append] at hn hr hc ⊢
    obtain ⟨v, r, h1, h2, h3⟩ := hr
    exact ⟨v, r, h1, Sat.out' h d (fun k hk => hn k (.inl hk)) h2 hc.1, Sat.outs' h ds (fun k hk => hn k (.inr hk)) h3 hc.2⟩
end

theorem outL_length (lk : Nat → Option Ob) : ∀ ds : List D, (outL lk ds).length = ds.length
  | [] => rfl
  | d :: ds => by simp [outL, outL_length lk ds]

mutual
theorem Sat.frzD (h : Sat T X Y w0 c s a w) (ks : List Nat) : ∀ (d : D) {v : Value}, Rd (PX X c) w (some c) d v → Rd (PX X (c.drops ks)) w (some (c.drops ks)) (d.frz s.lk ks) v
  | .int _ _, _, hr => by simpa only [D.frz, Rd] using hr
  | .bool _, _, hr => by simpa only [D.frz, Rd] using hr
  | .str _, _, hr => by simpa only [D.frz, Rd] using hr
  | .nilp, _, hr => by simpa only [D.frz, Rd] using hr
  | .nl _, _, hr => by simpa only [D.frz, Rd] using hr
  | .any, _, _ => by simp only [D.frz, Rd]
  | .fz sz es, v, hr => by
    simp only [D.frz]
    have := Rd.mono (Ext.refl (fun _ => False) w) (fun _ _ h => h.elim) (fun b _ hp => Sat.drops_px c ks b hp) (.fz sz es) (c := some c) (c' := some c) (Cx.le_refl _) hr
    simpa only [Rd] using this
  | .ad sz es i o, v, hr => by
    simp only [D.frz]
    have := Rd.mono (Ext.refl (fun _ => False) w) (fun _ _ h => h.elim) (fun b _ hp => Sat.drops_px c ks b hp) (.ad sz es i o) (c := some c) (c' := some c) (Cx.le_refl _) hr
    simpa only [Rd] using this
  | .xad cs, v, hr => by
    simp only [D.frz]
    have := Rd.mono (Ext.refl (fun _ => False) w) (fun _ _ h => h.elim) (fun b _ hp => Sat.drops_px c ks b hp) (.xad cs) (c := some c) (c' := some c) (Cx.le_refl _) hr
    simpa only [Rd] using this
  | .agg cs, v, hr => by
    simp only [D.frz, Rd] at hr ⊢
    obtain ⟨vs, h1, h2⟩ := hr
    exact ⟨vs, h1, Sat.frzDs h ks cs h2⟩
  | .tup cs, v, hr => by
    simp only [D.frz, Rd] at hr ⊢
    obtain ⟨vs, h1, h2⟩ := hr
    exact ⟨vs, h1, Sat.frzDs h ks cs h2⟩
  | .clo f cs, v, hr => by
    simp only [D.frz, Rd] at hr ⊢
    obtain ⟨vs, h1, h2⟩ := hr
    exact ⟨vs, h1, Sat.frzDs h ks cs h2⟩
  | .wh g d, v, hr => by
    simp only [D.frz, Rd] at hr ⊢
    exact ⟨fun hg => Sat.frzD h ks d (hr.1 hg), hr.2⟩
  | .ub, _, hr => by simpa only [D.frz, Rd] using hr
  | .err _, _, hr => by simpa only [D.frz, Rd] using hr
  | .sub _ _, _, hr => by simp only [Rd] at hr
  | .sbx _, _, hr => by simp only [Rd] at hr
  | .vw k sz lo n cp, v, hr => by
    simp only [D.frz]
    split
    · simp only [Rd]
    · rename_i hk
      simp only [Rd] at hr ⊢
      exact ⟨by simp only [Cx.drops, hr.1, Bool.true_and, Bool.not_eq_true']; simpa using hk, hr.2⟩
  | .own k o, v, hr => by
    simp only [D.frz]
    split
    · rename_i hk
      split
      · rename_i cs hlk
        split
        · rename_i hcond
          simp only [Bool.and_eq_true, List.all_eq_true] at hcond
          obtain ⟨⟨hcl, hrows⟩, hne⟩ := hcond
          simp only [Rd] at hr ⊢
          obtain ⟨hl, b, hb, hv⟩ := hr
          obtain ⟨b', arr, U, e1, e2, e3⟩ := h.ob k _ hlk
          obtain rfl : b' = b := Option.some.inj (e1.symm.trans hb)
          have hread := h.outs' (ks := ks) cs (fun q hq => by simpa using hrows q hq) e3 hcl
          refine ⟨b', 0, arr.toList, by rw [hv]; simp, h.drops_row (by simpa using hk) hl b' (.inl hb), by simp, CellsAt.of_arr e2, ?_⟩
          · simp only [RdE]
            have hlen := hread.length
            exact ⟨arr.toList, [], by simp, by rw [hlen, outL_length], hread, rfl⟩
        · simp only [Rd]
      · simp only [Rd]
    · rename_i hk
      simp only [Rd] at hr ⊢
      exact ⟨by simp only [Cx.drops, hr.1, Bool.true_and, Bool.not_eq_true']; simpa using hk, hr.2⟩
  | .elr k sz i o, v, hr => by
    simp only [D.frz]
    split
    · simp only [Rd]
    · rename_i hk
      simp only [Rd] at hr ⊢
      exact ⟨by simp only [Cx.drops, hr.1, Bool.true_and, Bool.not_eq_true']; simpa using hk, hr.2⟩
  | .row k, v, hr => by
    simp only [D.frz]
    simp only [Rd] at hr
    split
    · rename_i hk
      split
      · rename_i sz es hlk
        rw [hr.2]
        have := h.row_open (Z := PX X (c.drops ks)) (fun b _ hp => Sat.drops_px c ks b hp) (k := k) (fun b hb => h.drops_row (by simpa using hk) hr.1 b (.inl hb)) hlk
        simpa only [Rd] using this
      · rename_i sz es hlk
        rw [hr.2]
        have := h.rws_open (Z := PX X (c.drops ks)) (fun b _ hp => Sat.drops_px c ks b hp) (k := k) (h.drops_row (by simpa using hk) hr.1) hlk
        simpa only [Rd] using this
      · simp only [Rd]
    · rename_i hk
      simp only [Rd]
      exact ⟨by simp only [Cx.drops, hr.1, Bool.true_and, Bool.not_eq_true']; simpa using hk, hr.2⟩
theorem Sat.frzDs (h : Sat T X Y w0 c s a w) (ks : List Nat) : ∀ (ds : List D) {vs : List Value}, RdL (PX X c) w (some c) ds vs → RdL (PX X (c.drops ks)) w (some (c.drops ks)) (frzL s.lk ks ds) vs
  | [], _, hr => by simpa only [frzL, RdL] using hr
  | d :: ds, _, hr => by
    simp only [frzL, RdL] at hr ⊢
    obtain ⟨v, r, h1, h2, h3⟩ := hr
    exact ⟨v, r, h1, Sat.frzD h ks d h2, Sat.frzDs h ks ds h3⟩
end

theorem frzL_map (lk : Nat → Option Ob) (ks : List Nat) : ∀ ds : List D, frzL lk ks ds = ds.map (D.frz lk ks)
  | [] => rfl
  | d :: ds => by simp [frzL, frzL_map lk ks ds]
theorem frz_isSub (lk : Nat → Option Ob) (ks : List Nat) (d : D) : (d.frz lk ks).isSub = d.isSub := by
  cases d <;> simp only [D.frz] <;> (repeat' split) <;> rfl
theorem frz_sub (lk : Nat → Option Ob) (ks : List Nat) (d : D) (h : d.isSub = true) : d.frz lk ks = d := by
  cases d <;> first | (simp [D.isSub] at h; done) | simp only [D.frz]
theorem Ob.frz_mapc (lk : Nat → Option Ob) (ks : List Nat) (o : Ob) : o.frz lk ks = o.mapc (D.frz lk ks) := by
  cases o <;> simp [Ob.frz, Ob.mapc, frzL_map]

theorem lk_frzO (lk : Nat → Option Ob) (ks : List Nat) : ∀ (l : List (Nat × Ob)) (j : Nat), (frzO lk ks l).lookup j = if ks.contains j = true then none else (l.lookup j).map (Ob.frz lk ks)
  | [], j => by simp [frzO, List.lookup]
  | (i, p) :: r, j => by
    simp only [frzO]
    by_cases hj : j = i
    · subst hj
      by_cases hi : ks.contains j = true
      · rw [if_pos hi, lk_frzO lk ks r j, if_pos hi, if_pos hi]
      · rw [if_neg hi, if_neg hi]; simp [List.lookup]
    · have h1 : (j == i) = false := by simpa using hj
      by_cases hi : ks.contains i = true
      · rw [if_pos hi, lk_frzO lk ks r j]; simp only [List.lookup, h1]
      · rw [if_neg hi]; simp only [List.lookup, h1]; exact lk_frzO lk ks r j

theorem Sat.frz (h : Sat T X Y w0 c s a w) (ks : List Nat) : Sat T X Y w0 (c.drops ks) (s.frz ks) a w := by
  have hlk : ∀ j, (s.frz ks).lk j = if ks.contains j = true then none else (s.lk j).map (Ob.frz s.lk ks) := fun j => lk_frzO s.lk ks s.ob j
  have hlv : ∀ j, (c.drops ks).live j = true → c.live j = true := by
    intro j hj
    simp only [Cx.drops, Bool.and_eq_true] at hj
    exact hj.1
  refine ⟨fun j => ?_, Sat.frzDs h ks _ h.tm, fun j o hj => ?_, fun i j b hi hj => h.inj i j b (hlv i hi) (hlv j hj), fun j b hj => h.fresh j b (hlv j hj), h.ext, fun i => ?_, h.Xb, fun j hj => h.rv1 j (hlv j hj), h.dfs, fun j hj hl => h.base j hj (hlv j hl), fun b k hb => h.owf b k (drops_ow hb).1, fun b k j hb hj => h.owi b k j (drops_ow hb).1 (hlv j hj)⟩
  · rw [hlk]
    simp only [Cx.drops, h.live]
    by_cases hk : ks.contains j = true
    · rw [if_pos hk, hk]; simp
    · rw [if_neg hk]
      have : ks.contains j = false := by simpa using hk
      rw [this]
      cases s.lk j <;> rfl
  · rw [hlk] at hj
    split at hj
    · cases hj
    · cases hq : s.lk j with
      | none => rw [hq] at hj; cases hj
      | some q =>
        rw [hq] at hj
        simp at hj
        subst hj
        rename_i hjk
        have hjk' : ks.contains j = false := by simpa using hjk
        rw [Ob.frz_mapc]
        exact ObOK.tr (c' := c.drops ks) (k' := j) (D.frz s.lk ks) (Ext.refl (fun _ => False) w) (fun _ _ h => h.elim) (fun b _ hp => Sat.drops_px c ks b hp) rfl rfl (fun _ _ h => h) (fun b hb => ⟨id, drops_ow' hb hjk'⟩) (fun d v hd => Sat.frzD h ks d hd) (frz_isSub s.lk ks) (frz_sub s.lk ks) (h.ob j q hq)
  · exact Rd.mono (Ext.refl (fun _ => False) w) (fun _ _ h => h.elim) (fun b _ hp => Sat.drops_px c ks b hp) _ (c := none) (c' := none) trivial (h.gl i)

mutual
/-- Nothing is frozen. -/
theorem frz_nil_d (lk : Nat → Option Ob) : ∀ d : D, d.frz lk [] = d
  | .agg cs => by simp only [D.frz, frz_nil_l lk cs]
  | .tup cs => by simp only [D.frz, frz_nil_l lk cs]
  | .clo f cs => by simp only [D.frz, frz_nil_l lk cs]
  | .wh g d => by simp only [D.frz, frz_nil_d lk d]
  | .own k o | .row k | .elr k _ _ _ | .vw k _ _ _ _ => by simp only [D.frz, List.contains_nil, Bool.false_eq_true, if_false]
  | .int _ _ | .bool _ | .str _ | .nilp | .nl _ | .fz _ _ | .ad _ _ _ _ | .any | .ub | .err _ | .xad _ | .sub _ _ | .sbx _ => by simp only [D.frz]
theorem frz_nil_l (lk : Nat → Option Ob) : ∀ ds : List D, frzL lk [] ds = ds
  | [] => by simp only [frzL]
  | d :: r => by simp only [frzL, frz_nil_d lk d, frz_nil_l lk r]
end
theorem frz_nil_o (lk : Nat → Option Ob) : ∀ l : List (Nat × Ob), frzO lk [] l = l
  | [] => rfl
  | (k, o) :: r => by
    simp only [frzO, List.contains_nil, Bool.false_eq_true, if_false, frz_nil_o lk r]
    cases o <;> simp only [Ob.frz, frz_nil_l]
theorem frz_nil (s : St) : s.frz [] = s := by
  unfold St.frz
  rw [frz_nil_l, frz_nil_o]

end
end Go.Vcg

namespace Go.Vcg

/-- The blocks of the walk's own. -/
def Cx.mine (c : Cx) : Nat → Prop := fun b => (∃ k, c.live k = true ∧ c.ids k = some b) ∨ ∃ k, c.ow b = some k
/-- A function that is handed objects does what is said of it. -/
def FOKx (P : Program) (T : Tb) (f : Nat) (hs : HSp) : Prop :=
  ∀ (X : Nat → Prop) (w : World) (c : Cx) (args : Array Value) (ds : List D) (ob : List (Nat × Ob)),
    Sat T X ⟨c.mine, c⟩ w c ⟨ds, ob⟩ { tmps := args, defers := [] } w → (∀ k, (ob.lookup k).isSome = true → baseN ≤ k) → hs.pre ds ob →
    Calls P f args w fun e w' => ∃ v c', e = .returned v ∧ Sat T X ⟨c.mine, c⟩ w c' ⟨[(hs.F ds ob).1], (hs.F ds ob).2⟩ { tmps := #[v], defers := [] } w'

/-- A function does what is said of it. -/
def FOK (P : Program) (T : Tb) (f : Nat) (sp : Sp) : Prop :=
  match sp.hx with
  | none => ∀ (X : Nat → Prop) (w : World) (args : Array Value) (ds : List D), (∀ x, w.heap.size ≤ x → ¬ X x) → (∀ i, Rd X w none (T.gl i) (.pointer (some ⟨i, 0, none⟩))) → RdL X w none ds args.toList → sp.pre ds →
    Calls P f args w fun e w' => ∃ v, e = .returned v ∧ Rd X w' none (sp.F ds) v ∧ Ext (fun _ => False) w w'
  | some hs => FOKx P T f hs

theorem FOK.plain {P : Program} {T : Tb} {f : Nat} {sp : Sp} (h : FOK P T f sp) (hx : sp.hx = none) : ∀ (X : Nat → Prop) (w : World) (args : Array Value) (ds : List D), (∀ x, w.heap.size ≤ x → ¬ X x) → (∀ i, Rd X w none (T.gl i) (.pointer (some ⟨i, 0, none⟩))) → RdL X w none ds args.toList → sp.pre ds →
    Calls P f args w fun e w' => ∃ v, e = .returned v ∧ Rd X w' none (sp.F ds) v ∧ Ext (fun _ => False) w w' := by
  unfold FOK at h
  rw [hx] at h
  exact h

/-- It is slices.overlaps. -/
def OvlOK (P : Program) (f : Nat) : Prop := ∃ fn tS tR e size, P.funcs[f]? = some fn ∧ (fn.name == "runtime.NumGoroutine") = false ∧ fn.body.isNone = true ∧ Extern.findNext fn = none ∧ Extern.find fn = some (Extern.SlicesOverlaps.overlaps #[tS, tS] #[tR]) ∧ P.underlying tS = some (.slice e) ∧ ∀ w, (Go.sizeOf e).run P w = .ok size w
def OvlAll (P : Program) (kf : Nat → Nat) : Prop := ∀ f, kf f = 3000000 + f → OvlOK P f

/-- A function that is entered. -/
def Enters (P : Program) (f : Nat) : Prop := ∀ (argv : Array Value) (w : World), (callFunc f argv).run P w = .ok (.enter f argv) w

theorem enters_of {P : Program} {f : Nat} {fn : Func} (hf : P.funcs[f]? = some fn) (hb : fn.body.isSome = true) (hn : (fn.name == "runtime.NumGoroutine") = false) : Enters P f := by
  intro argv w
  have h1 : ¬ fn.name = "runtime.NumGoroutine" := by simpa using hn
  have h2 : ¬ fn.body = none := by intro h; rw [h] at hb; cases hb
  simp [callFunc, program, Sem.run, hf, h1, h2]

def TbOK (P : Program) (kf : Nat → Nat) (T : Tb) : Prop := (∀ f sp, T.sp (kf f) = some sp → FOK P T f sp ∧ Enters P f) ∧
  (∀ f sp, f < 1000000 → T.sp f = some sp → FOK P T f sp ∧ Enters P f) ∧ (∀ f sp, f < 1000000 → T.sp (1000000 + f) = some sp → FOK P T f sp ∧ Enters P f) ∧ OvlAll P kf

theorem TbOK.cnum {P : Program} {kf : Nat → Nat} {T : Tb} (h : TbOK P kf T) {f : Nat} (hf : f < 1000000) {sp : Sp} (hs : T.sp (cnum T f) = some sp) : FOK P T f sp ∧ Enters P f := by
  unfold Vcg.cnum at hs
  split at hs
  · exact h.2.1 f sp hf hs
  · exact h.2.2.1 f sp hf hs

section
variable {P : Program} {kf : Nat → Nat} {T : Tb} {X : Nat → Prop} {Y : Env} {w0 w : World} {c : Cx} {s : St} {a : Act}

/-! ### Handing on -/
mutual
theorem Sat.out1 (h : Sat T X Y w0 c s a w) {Z : Nat → Prop} (hZ : ∀ b, b < w.heap.size → Z b → PX X c b) : ∀ (d : D) {v : Value}, (d.norow = true ∨ ∀ k b, c.live k = true → c.ids k = some b ∨ c.ow b = some k → ¬ Z b) → Rd (PX X c) w (some c) d v → (d.out s.lk).clos = true → Rd Z w none (d.out s.lk) v
  | .int _ _, v, _, hr, _ => by simpa only [D.out, Rd] using hr
  | .bool _, v, _, hr, _ => by simpa only [D.out, Rd] using hr
  | .str _, v, _, hr, _ => by simpa only [D.out, Rd] using hr
  | .nilp, v, _, hr, _ => by simpa only [D.out, Rd] using hr
  | .nl sz, v, _, hr, _ => by simp only [D.out, Rd] at hr ⊢; exact .inl ⟨⟨none, hr⟩, trivial⟩
  | .any, v, _, _, _ => by simp only [D.out, Rd]
  | .fz sz es, v, _, hr, _ => by
    simp only [D.out]
    have := Rd.mono (Ext.refl (fun _ => False) w) (fun _ _ h => h.elim) hZ (.fz sz es) (c := some c) (c' := some c) (Cx.le_refl _) hr
    simpa only [Rd] using this
  | .ad sz es i o, v, _, hr, _ => by
    simp only [D.out]
    have := Rd.mono (Ext.refl (fun _ => False) w) (fun _ _ h => h.elim) hZ (.ad sz es i o) (c := some c) (c' := some c) (Cx.le_refl _) hr
    simpa only [Rd] using this
  | .xad cs, v, _, hr, _ => by
    simp only [D.out]
    have := Rd.mono (Ext.refl (fun _ => False) w) (fun _ _ h => h.elim) hZ (.xad cs) (c := some c) (c' := some c) (Cx.le_refl _) hr
    simpa only [Rd] using this
  | .agg cs, v, hn, hr, hc => by
    simp only [D.out, Rd, D.norow, D.clos] at hn hr hc ⊢
    obtain ⟨vs, h1, h2⟩ := hr
    exact ⟨vs, h1, Sat.outs h hZ cs hn h2 hc⟩
  | .tup cs, v, hn, hr, hc => by
    simp only [D.out, Rd, D.norow, D.clos] at hn hr hc ⊢
    obtain ⟨vs, h1, h2⟩ := hr
    exact ⟨vs, h1, Sat.outs h hZ cs hn h2 hc⟩
  | .clo f cs, v, hn, hr, hc => by
    simp only [D.out, Rd, D.norow, D.clos] at hn hr hc ⊢
    obtain ⟨vs, h1, h2⟩ := hr
    exact ⟨vs, h1, Sat.outs h hZ cs hn h2 hc⟩
  | .own k o, v, _, _, hc => by simp [D.out, D.clos] at hc
  | .elr k sz i o, v, _, _, hc => by simp [D.out, D.clos] at hc
  | .vw k sz lo n cp, v, _, _, hc => by simp [D.out, D.clos] at hc
  | .ub, v, _, hr, _ => by simpa only [D.out, Rd] using hr
  | .err _, v, _, hr, _ => by simpa only [D.out, Rd] using hr
  | .wh g d, v, _, _, hc => by simp [D.out, D.clos] at hc
  | .sub _ _, v, _, hr, _ => by simp only [Rd] at hr
  | .sbx _, v, _, hr, _ => by simp only [Rd] at hr
  | .row k, v, hn, hr, hc => by
    simp only [D.out] at hc ⊢
    split at hc
    · rename_i sz es hk
      simp only [Rd] at hr
      rw [hr.2]
      rcases hn with hn | hn
      · simp [D.norow] at hn
      · exact h.row_open hZ (fun b hb => hn k b hr.1 (.inl hb)) hk
    · rename_i sz es hk
      simp only [Rd] at hr
      rw [hr.2]
      rcases hn with hn | hn
      · simp [D.norow] at hn
      · exact h.rws_open hZ (fun b hb => hn k b hr.1 hb) hk
    · simp [D.clos] at hc
theorem Sat.outs (h : Sat T X Y w0 c s a w) {Z : Nat → Prop} (hZ : ∀ b, b < w.heap.size → Z b → PX X c b) : ∀ (ds : List D) {vs : List Value}, (norowL ds = true ∨ ∀ k b, c.live k = true → c.ids k = some b ∨ c.ow b = some k → ¬ Z b) → RdL (PX X c) w (some c) ds vs → closL (outL s.lk ds) = true → RdL Z w none (outL s.lk ds) vs
  | [], _, _, hr, _ => by simpa only [outL, RdL] using hr
  | d :: ds, _, hn, hr, hc => by
    simp only [outL, RdL, norowL, closL, Bool.and_eq_true] at hn hr hc ⊢
    obtain ⟨v, r, h1, h2, h3⟩ := hr
    exact ⟨v, r, h1, Sat.out1 h hZ d (hn.imp (·.1) id) h2 hc.1, Sat.outs h hZ ds (hn.imp (·.2) id) h3 hc.2⟩
end

mutual
theorem Rd.scal {Z Z' : Nat → Prop} {w w' : World} {cx cx' : Option Cx} : ∀ (d : D) {v : Value}, d.scal = true → Rd Z w cx d v → Rd Z' w' cx' d v
  | .int _ _, _, _, h => by simpa only [Rd] using h
  | .bool _, _, _, h => by simpa only [Rd] using h
  | .str _, _, _, h => by simpa only [Rd] using h
  | .nilp, _, _, h => by simpa only [Rd] using h
  | .nl _, _, _, h => by simpa only [Rd] using h
  | .agg cs, _, hs, h => by
    simp only [Rd, D.scal] at h hs ⊢
    obtain ⟨vs, h1, h2⟩ := h
    exact ⟨vs, h1, RdL.scal cs hs h2⟩
  | .tup cs, _, hs, h => by
    simp only [Rd, D.scal] at h hs ⊢
    obtain ⟨vs, h1, h2⟩ := h
    exact ⟨vs, h1, RdL.scal cs hs h2⟩
  | .any, _, hs, _ | .fz _ _, _, hs, _ | .clo _ _, _, hs, _ | .own _ _, _, hs, _ | .row _, _, hs, _ | .elr _ _ _ _, _, hs, _ | .ub, _, hs, _ | .err _, _, hs, _ | .xad _, _, hs, _ | .vw _ _ _ _ _, _, hs, _ | .ad _ _ _ _, _, hs, _ | .wh _ _, _, hs, _ | .sub _ _, _, hs, _ | .sbx _, _, hs, _ => by simp [D.scal] at hs
theorem RdL.scal {Z Z' : Nat → Prop} {w w' : World} {cx cx' : Option Cx} : ∀ (ds : List D) {vs : List Value}, scalL ds = true → RdL Z w cx ds vs → RdL Z' w' cx' ds vs
  | [], _, _, h => by simpa only [RdL] using h
  | d :: ds, _, hs, h => by
    simp only [RdL, scalL, Bool.and_eq_true] at h hs ⊢
    obtain ⟨v, r, h1, h2, h3⟩ := h
    exact ⟨v, r, h1, Rd.scal d hs.1 h2, RdL.scal ds hs.2 h3⟩
end

theorem cArgs_read (h : Sat T X Y w0 c s a w) : ∀ {Ts : List TypeId} {xs : List Operand} {ys : List Opd}, cArgs P Ts xs = some ys → gus T s ys → RdL (PX X c) w (some c) (ys.map fun y => (y.ev T s).un) (xs.map a.eval)
  | [], [], _, hc, _ => by simp [cArgs] at hc; subst hc; simp [RdL]
  | [], _ :: _, _, hc, _ => by simp [cArgs] at hc
  | _ :: _, [], _, hc, _ => by simp [cArgs] at hc
  | U :: Ts, x :: xs, ys, hc, hg => by
    simp only [cArgs] at hc
    split at hc
    · rename_i y l hy hl
      simp at hc
      subst hc
      simp only [gus] at hg
      simp only [List.map_cons, RdL]
      exact ⟨_, _, rfl, h.opdU hy hg.1, cArgs_read h hl hg.2⟩
    · simp at hc

theorem outL_map (lk : Nat → Option Ob) : ∀ (ds : List D), outL lk ds = ds.map (D.out lk)
  | [] => rfl
  | d :: ds => by simp [outL, outL_map lk ds]

theorem snd_call (hT : TbOK P kf T) (h : Sat T X Y w0 c s a w) {o : Oper} {f : Nat} {args : Array Operand} {argTypes : Array TypeId} {ys : List Opd} {sp : Sp} (ho : o.op = .call { callee := .value (.func f), args, argTypes }) (hc : cArgs P argTypes.toList args.toList = some ys) (hg : gus T s ys) (hsp : T.sp (kf f) = some sp) (hhx : sp.hx = none)
    (hpre : sp.pre (ys.map fun x => (x.ev T s).un.out s.lk)) (hcl : closL (ys.map fun x => (x.ev T s).un.out s.lk) = true) (hnr : norowL (ys.map fun x => (x.ev T s).un) = false → (sp.F (ys.map fun x => (x.ev T s).un.out s.lk)).scal = true)
    {K : Act → World → Prop} {Q : Exit → Act → World → Prop} (hK : ∀ v w', Sat T X Y w0 c s a w' → Rd (PX X c) w' (some c) (sp.F (ys.map fun x => (x.ev T s).un.out s.lk)) v → K (a.put o.dst v) w') : o.wp P a w K Q := by
  have hrd := cArgs_read h hc hg
  have hmap : (ys.map fun x => (x.ev T s).un.out s.lk) = outL s.lk (ys.map fun y => (y.ev T s).un) := by rw [outL_map, List.map_map]; rfl
  have hrun : (execOp a.eval o).run P w = .ok (.enter f (args.map a.eval)) w := by
    simp only [execOp, ho, resolve, Act.eval, Deferred.ofValue, Sem.run_bind, Sem.run_pure, Result.andThen_ok, invoke]
    simpa using (hT.1 f sp hsp).2 (args.map a.eval) w
  unfold Oper.wp
  rw [hrun, Oper.upon_enter]
  have hw0 := h.ext.size
  cases hrow : norowL (ys.map fun x => (x.ev T s).un) with
  | true =>
    have hargs : RdL (PX X c) w none (ys.map fun x => (x.ev T s).un.out s.lk) (args.map a.eval).toList := by
      rw [hmap] at hcl ⊢
      rw [Array.toList_map]
      exact Sat.outs h (fun _ _ h => h) _ (.inl hrow) hrd hcl
    refine ((hT.1 f sp hsp).1.plain hhx (PX X c) w _ _ (fun x hx hp => ?_) h.gl hargs hpre).mono fun e w' ⟨v, he, hv, hE⟩ => ?_
    · rcases hp with hp | ⟨k, hl, hk⟩ | ⟨k, hk⟩
      · exact h.Xb x (by omega) hp
      · have := h.id_lt hl hk; omega
      · have := (h.owf x k hk).2.2; omega
    · subst he
      exact hK v w' (h.world hE) hv.closed
  | false =>
    have hargs : RdL (fun _ => False) w none (ys.map fun x => (x.ev T s).un.out s.lk) (args.map a.eval).toList := by
      rw [hmap] at hcl ⊢
      rw [Array.toList_map]
      exact Sat.outs h (fun _ _ h => h.elim) _ (.inr fun _ _ _ _ h => h) hrd hcl
    refine ((hT.1 f sp hsp).1.plain hhx (fun _ => False) w _ _ (fun _ _ h => h) (fun i => Rd.mono (Ext.refl (fun _ => False) w) (fun _ _ h => h.elim) (fun _ _ h => h.elim) _ (c := none) (c' := none) trivial (h.gl i)) hargs hpre).mono fun e w' ⟨v, he, hv, hE⟩ => ?_
    subst he
    exact hK v w' (h.world hE) (Rd.scal _ (hnr hrow) hv)

/-! ### One operation -/
theorem undef_notBool (b : Bool) : undef ≠ .bool b := by unfold undef; intro h; cases h

/-- The guard's Bool says whether the operation is carried out. -/
theorem Sat.guard (h : Sat T X Y w0 c s a w) {ops : Array Oper} {o : Oper} {g : Option (Nat × Bool)} (hg : guardSlot ops o.guard = some g) {G : Bool} (hG : gd s g = some G) : Region.wanted o (yielded ops a.tmps) = G := by
  unfold Region.wanted
  cases ho : o.guard with
  | none =>
    rw [ho] at hg
    simp [guardSlot] at hg
    subst hg
    simp [gd] at hG
    simp [hG]
  | some jw =>
    obtain ⟨j, want⟩ := jw
    rw [ho] at hg
    simp only [guardSlot] at hg
    cases hd : (ops[j]?).bind (·.dst) with
    | none => simp [hd] at hg
    | some d =>
      simp [hd] at hg
      subst hg
      simp only [gd] at hG
      have hr := h.getT d
      have hy : ∀ b, a.tmps.getD d undef = .bool b → yielded ops a.tmps j = some b := by
        intro b hb
        unfold yielded
        rw [hd]
        simp only [Option.bind_some]
        cases ht : a.tmps[d]? with
        | none => simp [ht] at hb; exact absurd hb (undef_notBool b)
        | some v => simp [ht] at hb; subst hb; rfl
      have hn : a.tmps.getD d undef = undef → yielded ops a.tmps j = none := by
        intro hb
        unfold yielded
        rw [hd]
        simp only [Option.bind_some]
        cases ht : a.tmps[d]? with
        | none => rfl
        | some v => simp [ht] at hb; subst hb; rfl
      simp only
      split at hG
      · rename_i b hs
        rw [hs] at hr
        simp only [Rd] at hr
        rw [hy b hr]
        simp at hG
        rw [← hG]
        cases b <;> cases want <;> rfl
      · rename_i g b hs
        rw [hs] at hr
        simp only [Rd] at hr
        simp at hG
        rw [← hG]
        cases g with
        | true => rw [hy b (hr.1 rfl)]; cases b <;> cases want <;> rfl
        | false => rw [hn (hr.2 rfl)]; rfl
      · cases hG

theorem wrap_read {Z : Nat → Prop} {cx : Option Cx} {g : Option (Nat × Bool)} {G : Bool} {d : D} {v : Value} (h : Rd Z w cx d v) (hG : G = true) : Rd Z w cx (wrapD g G d) v := by
  unfold wrapD
  split
  · exact h
  · simp only [Rd]; exact ⟨fun _ => h, fun e => by rw [hG] at e; cases e⟩
theorem wrap_undef {Z : Nat → Prop} {cx : Option Cx} {jw : Nat × Bool} {d : D} : Rd Z w cx (wrapD (some jw) false d) undef := by
  simp only [wrapD, Rd]; exact ⟨(fun e => by cases e), fun _ => trivial⟩

theorem pickD_read {Z : Nat → Prop} {cx : Option Cx} {b : Bool} {d e r : D} (h : pickD b d e = some r) {u v : Value} (hd : b = true → Rd Z w cx d u) (he : b = false → Rd Z w cx e v) : Rd Z w cx r (if b then u else v) := by
  unfold pickD at h
  split at h
  · obtain rfl := Option.some.inj h
    cases b <;> simp only [Rd] at hd he ⊢ <;> simp_all
  · split at h
    · rename_i hk
      subst hk
      obtain rfl := Option.some.inj h
      cases b <;> simp only [Rd] at hd he ⊢ <;> simp_all
    · cases h
  · cases h

theorem snd_pick (h : Sat T X Y w0 c s a w) {o : Oper} {x y z : Operand} {U V W : TypeId} {x' y' z' : Opd} (ho : o.op = .pick x y z) (hx : cOpd P U x = some x') (hy : cOpd P V y = some y') (hz : cOpd P W z = some z') {b : Bool} (hb : (x'.ev T s).un = .bool b) {d : D} (hd : pickD b (y'.ev T s).un (z'.ev T s).un = some d)
    (hgx : (x'.ev T s).gu = true) (hgy : b = true → (y'.ev T s).gu = true) (hgz : b = false → (z'.ev T s).gu = true) : Yld P X c a w o d := by
  have hrx := h.opdU hx hgx
  rw [hb] at hrx
  simp only [Rd] at hrx
  refine ⟨if b then a.eval y else a.eval z, ?_, pickD_read hd (fun e => h.opdU hy (hgy e)) (fun e => h.opdU hz (hgz e))⟩
  simp only [execOp, ho, hrx, asBool, Sem.run_bind, Sem.run_pure, Result.andThen_ok]
end
end Go.Vcg

namespace Go.Vcg
section
variable {P : Program} {kf : Nat → Nat} {T : Tb} {X : Nat → Prop} {Y : Env} {w0 w : World} {c : Cx} {s : St} {a : Act}

/-! ### A call that is handed objects -/
section
variable {Z Z' : Nat → Prop} {w : World} {c c' : Cx} {m : Nat → Option Nat}
mutual
theorem ren_read (hZ : ∀ b, b < w.heap.size → Z' b → Z b) (hm : ∀ k j, m k = some j → c.live k = true → c'.live j = true ∧ c'.ids j = c.ids k ∧ c'.rv j = c.rv k) : ∀ (d : D) {v : Value}, Rd Z w (some c) d v → Rd Z' w (some c') (d.ren m) v
  | .int _ _, _, hr => by simpa only [D.ren, Rd] using hr
  | .bool _, _, hr => by simpa only [D.ren, Rd] using hr
  | .str _, _, hr => by simpa only [D.ren, Rd] using hr
  | .nilp, _, hr => by simpa only [D.ren, Rd] using hr
  | .nl _, _, hr => by simpa only [D.ren, Rd] using hr
  | .any, _, _ => by simp only [D.ren, Rd]
  | .fz sz es, v, hr => by
    simp only [D.ren]
    have := Rd.mono (Ext.refl (fun _ => False) w) (fun _ _ h => h.elim) hZ (.fz sz es) (c := some c) (c' := some c) (Cx.le_refl _) hr
    simpa only [Rd] using this
  | .ad sz es i o, v, hr => by
    simp only [D.ren]
    have := Rd.mono (Ext.refl (fun _ => False) w) (fun _ _ h => h.elim) hZ (.ad sz es i o) (c := some c) (c' := some c) (Cx.le_refl _) hr
    simpa only [Rd] using this
  | .xad cs, v, hr => by
    simp only [D.ren]
    have := Rd.mono (Ext.refl (fun _ => False) w) (fun _ _ h => h.elim) hZ (.xad cs) (c := some c) (c' := some c) (Cx.le_refl _) hr
    simpa only [Rd] using this
  | .agg cs, v, hr => by
    simp only [D.ren, Rd] at hr ⊢
    obtain ⟨vs, h1, h2⟩ := hr
    exact ⟨vs, h1, renL_read hZ hm cs h2⟩
  | .tup cs, v, hr => by
    simp only [D.ren, Rd] at hr ⊢
    obtain ⟨vs, h1, h2⟩ := hr
    exact ⟨vs, h1, renL_read hZ hm cs h2⟩
  | .clo f cs, v, hr => by
    simp only [D.ren, Rd] at hr ⊢
    obtain ⟨vs, h1, h2⟩ := hr
    exact ⟨vs, h1, renL_read hZ hm cs h2⟩
  | .wh g d, v, hr => by
    simp only [D.ren, Rd] at hr ⊢
    exact ⟨fun hg => ren_read hZ hm d (hr.1 hg), hr.2⟩
  | .own k o, v, hr => by
    simp only [D.ren]
    simp only [Rd] at hr
    obtain ⟨hl, b, hb, hv⟩ := hr
    split
    · rename_i j hj
      obtain ⟨h1, h2, _⟩ := hm k j hj hl
      simp only [Rd]
      exact ⟨h1, b, h2.trans hb, hv⟩
    · simp only [Rd]
  | .elr k sz i o, v, hr => by
    simp only [D.ren]
    simp only [Rd] at hr
    obtain ⟨hl, b, hb, hv⟩ := hr
    split
    · rename_i j hj
      obtain ⟨h1, h2, _⟩ := hm k j hj hl
      simp only [Rd]
      exact ⟨h1, b, h2.trans hb, hv⟩
    · simp only [Rd]
  | .ub, v, hr => by simpa only [D.ren, Rd] using hr
  | .err _, v, hr => by simpa only [D.ren, Rd] using hr
  | .sub _ _, v, hr => by simp only [Rd] at hr
  | .sbx _, v, hr => by simp only [Rd] at hr
  | .vw k sz lo n cp, v, hr => by
    simp only [D.ren]
    simp only [Rd] at hr
    obtain ⟨hl, b, o, hb, hv⟩ := hr
    split
    · rename_i j hj
      obtain ⟨h1, h2, _⟩ := hm k j hj hl
      simp only [Rd]
      exact ⟨h1, b, o, h2.trans hb, hv⟩
    · simp only [Rd]
  | .row k, v, hr => by
    simp only [D.ren]
    simp only [Rd] at hr
    obtain ⟨hl, hv⟩ := hr
    split
    · rename_i j hj
      obtain ⟨h1, _, h3⟩ := hm k j hj hl
      simp only [Rd]
      exact ⟨h1, hv.trans h3.symm⟩
    · simp only [Rd]
theorem renL_read (hZ : ∀ b, b < w.heap.size → Z' b → Z b) (hm : ∀ k j, m k = some j → c.live k = true → c'.live j = true ∧ c'.ids j = c.ids k ∧ c'.rv j = c.rv k) : ∀ (ds : List D) {vs : List Value}, RdL Z w (some c) ds vs → RdL Z' w (some c') (renL m ds) vs
  | [], _, hr => by simpa only [renL, RdL] using hr
  | d :: ds, _, hr => by
    simp only [renL, RdL] at hr ⊢
    obtain ⟨v, r, h1, h2, h3⟩ := hr
    exact ⟨v, r, h1, ren_read hZ hm d h2, renL_read hZ hm ds h3⟩
end
end

theorem renL_map (m : Nat → Option Nat) : ∀ ds : List D, renL m ds = ds.map (D.ren m)
  | [] => rfl
  | d :: ds => by simp [renL, renL_map m ds]
theorem ren_isSub (m : Nat → Option Nat) (d : D) : (d.ren m).isSub = d.isSub := by
  cases d <;> simp only [D.ren] <;> (try split) <;> rfl
theorem ren_sub (m : Nat → Option Nat) (d : D) (h : d.isSub = true) : d.ren m = d := by
  cases d <;> first | (simp [D.isSub] at h; done) | simp only [D.ren]
theorem Ob.ren_mapc (m : Nat → Option Nat) (o : Ob) : o.ren m = o.mapc (D.ren m) := by
  cases o <;> simp [Ob.ren, Ob.mapc, renL_map]

theorem pos_spec : ∀ {k : Nat} {ks : List Nat} {i : Nat}, pos k ks = some i → ks[i]? = some k
  | k, [], i, h => by simp [pos] at h
  | k, j :: r, i, h => by
    simp only [pos] at h
    split at h
    · rename_i hj; cases h; simp [hj]
    · simp only [Option.map_eq_some_iff] at h
      obtain ⟨q, hq, rfl⟩ := h
      simpa using pos_spec hq
theorem pos_mem : ∀ {k : Nat} {ks : List Nat}, pos k ks = none → k ∉ ks
  | k, [], h => by simp
  | k, j :: r, h => by
    simp only [pos] at h
    split at h
    · cases h
    · rename_i hj
      simp only [Option.map_eq_none_iff] at h
      simp only [List.mem_cons, not_or]
      exact ⟨fun e => hj e.symm, pos_mem h⟩
theorem pos_get : ∀ {ks : List Nat} {i k : Nat}, apartN ks = true → ks[i]? = some k → pos k ks = some i
  | [], i, k, _, h => by simp at h
  | j :: r, 0, k, _, h => by simp at h; simp [pos, h]
  | j :: r, i + 1, k, ha, h => by
    simp only [apartN, Bool.and_eq_true, Bool.not_eq_true', List.contains_eq_mem, decide_eq_false_iff_not] at ha
    have h' : r[i]? = some k := by simpa using h
    have hne : j ≠ k := fun e => ha.1 (e ▸ List.mem_of_getElem? h')
    simp only [pos, if_neg hne, pos_get ha.2 h', Option.map_some]

theorem lk_inObs (lk : Nat → Option Ob) (ks : List Nat) : ∀ (r : List Nat) (i n : Nat), (∀ k ∈ r, (lk k).isSome = true) → (inObs lk ks i r).lookup n = if baseN + i ≤ n then (r[n - (baseN + i)]?).bind (fun k => (lk k).map (Ob.ren (inM ks))) else none
  | [], i, n, _ => by simp [inObs, List.lookup]
  | k :: r, i, n, h => by
    obtain ⟨o, ho⟩ := Option.isSome_iff_exists.1 (h k (by simp))
    simp only [inObs, ho]
    have ih := lk_inObs lk ks r (i + 1) n (fun k hk => h k (by simp [hk]))
    by_cases hn : n = baseN + i
    · subst hn; simp [List.lookup, ho]
    · have h1 : (n == baseN + i) = false := by simpa using hn
      simp only [List.lookup, h1]
      rw [ih]
      by_cases hle : baseN + i ≤ n
      · rw [if_pos hle, if_pos (by omega)]
        have : n - (baseN + i) = (n - (baseN + (i + 1))) + 1 := by omega
        rw [this, List.getElem?_cons_succ]
      · rw [if_neg hle, if_neg (by omega)]

/-- Where the handed-in objects lie. -/
def Cx.into (c : Cx) (ks : List Nat) : Cx :=
  { ids := fun n => (ks[n - baseN]?).bind c.ids, rv := fun n => match ks[n - baseN]? with | some k => c.rv k | none => .nilFunc, live := fun n => decide (baseN ≤ n) && decide (n - baseN < ks.length), ow := fun b => match c.ow b with | some k => inM ks k | none => none }
def XIn (X : Nat → Prop) (c : Cx) (ks : List Nat) : Nat → Prop := fun b => X b ∨ (∃ k, c.live k = true ∧ k ∉ ks ∧ c.ids k = some b) ∨ ∃ k, c.ow b = some k ∧ k ∉ ks

theorem into_ow {ks : List Nat} {b n : Nat} (h : (c.into ks).ow b = some n) : ∃ k, c.ow b = some k ∧ inM ks k = some n := by
  simp only [Cx.into] at h
  split at h
  · exact ⟨_, ‹_›, h⟩
  · cases h
theorem into_ow' {ks : List Nat} {b k : Nat} (h : c.ow b = some k) : (c.into ks).ow b = inM ks k := by
  simp only [Cx.into, h]
theorem inM_mem {ks : List Nat} {k n : Nat} (h : inM ks k = some n) : k ∈ ks := by
  simp only [inM, Option.map_eq_some_iff] at h
  obtain ⟨i, hi, _⟩ := h
  exact List.mem_of_getElem? (pos_spec hi)

theorem Sat.enter (h : Sat T X Y w0 c s a w) {ks : List Nat} (hap : apartN ks = true) (hall : ∀ k ∈ ks, (s.lk k).isSome = true) {ds : List D} {args : Array Value} (hr : RdL (PX X c) w (some c) ds args.toList) :
    Sat T (XIn X c ks) ⟨(c.into ks).mine, c.into ks⟩ w (c.into ks) ⟨renL (inM ks) ds, inObs s.lk ks 0 ks⟩ { tmps := args, defers := [] } w := by
  have hlk : ∀ n, St.lk ⟨renL (inM ks) ds, inObs s.lk ks 0 ks⟩ n = if baseN ≤ n then (ks[n - baseN]?).bind (fun k => (s.lk k).map (Ob.ren (inM ks))) else none := fun n => by
    have := lk_inObs s.lk ks ks 0 n hall
    rw [Nat.add_zero] at this
    exact this
  have hlv : ∀ n, (c.into ks).live n = true → ∃ k, baseN ≤ n ∧ ks[n - baseN]? = some k ∧ k ∈ ks ∧ c.live k = true ∧ (c.into ks).ids n = c.ids k ∧ (c.into ks).rv n = c.rv k := by
    intro n hn
    simp only [Cx.into, Bool.and_eq_true, decide_eq_true_eq] at hn
    have hk : ks[n - baseN]? = some (ks[n - baseN]'hn.2) := List.getElem?_eq_getElem hn.2
    have hm : ks[n - baseN]'hn.2 ∈ ks := List.getElem_mem hn.2
    exact ⟨_, hn.1, hk, hm, by rw [h.live]; exact hall _ hm, by simp only [Cx.into, hk, Option.bind_some], by simp only [Cx.into, hk]⟩
  have hPX : ∀ b, PX (XIn X c ks) (c.into ks) b → PX X c b := by
    intro b hp
    rcases hp with (hp | ⟨k, h1, h2, h3⟩ | ⟨k, h1, _⟩) | ⟨n, hn, hb⟩ | ⟨n, hn⟩
    · exact .inl hp
    · exact .inr (.inl ⟨k, h1, h3⟩)
    · exact .inr (.inr ⟨k, h1⟩)
    · obtain ⟨k, _, _, _, h4, h5, _⟩ := hlv n hn
      exact .inr (.inl ⟨k, h4, by rw [← h5]; exact hb⟩)
    · obtain ⟨k, hk, _⟩ := into_ow hn
      exact .inr (.inr ⟨k, hk⟩)
  have hm : ∀ k j, inM ks k = some j → c.live k = true → (c.into ks).live j = true ∧ (c.into ks).ids j = c.ids k ∧ (c.into ks).rv j = c.rv k := by
    intro k j hk _
    simp only [inM, Option.map_eq_some_iff] at hk
    obtain ⟨i, hi, rfl⟩ := hk
    have hg := pos_spec hi
    have hil : i < ks.length := (List.getElem?_eq_some_iff.1 hg).1
    have e : baseN + i - baseN = i := by omega
    refine ⟨?_, ?_, ?_⟩
    · simp only [Cx.into, e, Bool.and_eq_true, decide_eq_true_eq]; omega
    · simp only [Cx.into, e, hg, Option.bind_some]
    · simp only [Cx.into, e, hg]
  refine ⟨fun n => ?_, renL_read (fun b _ hp => hPX b hp) hm _ hr, fun n o hn => ?_, fun n n' b hn hn' hb hb' => ?_, fun n b hn hb => ?_, Ext.refl _ _, fun i => ?_, fun x hx hp => ?_, fun n hn => ?_, rfl, fun n _ _ => ⟨rfl, rfl⟩, fun b n hb => ?_, fun b n n' hb hn' hid => ?_⟩
  · rw [hlk]
    by_cases hb : baseN ≤ n
    · rw [if_pos hb]
      by_cases hl : n - baseN < ks.length
      · have hk : ks[n - baseN]? = some (ks[n - baseN]'hl) := List.getElem?_eq_getElem hl
        obtain ⟨o, ho⟩ := Option.isSome_iff_exists.1 (hall _ (List.getElem_mem hl))
        rw [hk]
        simp only [Option.bind_some, ho, Option.map_some, Option.isSome_some, Cx.into, Bool.and_eq_true, decide_eq_true_eq]
        exact ⟨hb, hl⟩
      · have hk : ks[n - baseN]? = none := List.getElem?_eq_none (by omega)
        rw [hk]
        simp only [Cx.into, Option.bind_none, Option.isSome_none, Bool.and_eq_false_iff, decide_eq_false_iff_not]
        exact .inr hl
    · rw [if_neg hb]
      simp only [Cx.into, Option.isSome_none, Bool.and_eq_false_iff, decide_eq_false_iff_not]
      exact .inl hb
  · rw [hlk] at hn
    split at hn
    · rename_i hb
      cases hk : ks[n - baseN]? with
      | none => rw [hk] at hn; cases hn
      | some k =>
        rw [hk] at hn
        simp only [Option.bind_some, Option.map_eq_some_iff] at hn
        obtain ⟨o', ho', rfl⟩ := hn
        have hob := h.ob k o' ho'
        have e1 : (c.into ks).ids n = c.ids k := by simp only [Cx.into, hk, Option.bind_some]
        have e2 : (c.into ks).rv n = c.rv k := by simp only [Cx.into, hk]
        have hnk : inM ks k = some n := by
          rw [inM, pos_get hap hk]
          simp only [Option.map_some, Option.some.injEq]; omega
        rw [Ob.ren_mapc]
        exact ObOK.tr (c' := c.into ks) (k' := n) (D.ren (inM ks)) (Ext.refl (fun _ => False) w) (fun _ _ h => h.elim) (fun b _ hp => hPX b hp) e1 e2 (fun _ _ h => h) (fun b hb => ⟨id, (into_ow' hb).trans hnk⟩) (fun d v hd => ren_read (fun b _ hp => hPX b hp) hm d hd) (ren_isSub _) (ren_sub _) hob
    · cases hn
  · obtain ⟨k, h1, h2, h3, h4, h5, _⟩ := hlv n hn
    obtain ⟨k', h1', h2', h3', h4', h5', _⟩ := hlv n' hn'
    rw [h5] at hb
    rw [h5'] at hb'
    have := h.inj k k' b h4 h4' hb hb'
    subst this
    have e1 := pos_get hap h2
    have e2 := pos_get hap h2'
    rw [e1] at e2
    have := Option.some.inj e2
    omega
  · obtain ⟨k, h1, h2, h3, h4, h5, _⟩ := hlv n hn
    refine ⟨.inr (.inl ⟨n, hn, hb⟩), ?_⟩
    rw [h5] at hb
    rintro (hp | ⟨j, j1, j2, j3⟩ | ⟨j, j1, j2⟩)
    · exact (h.fresh k b h4 hb).2 hp
    · have := h.inj j k b j1 h4 j3 hb
      subst this
      exact j2 h3
    · exact h.owi b j k j1 h4 hb
  · exact Rd.mono (Ext.refl (fun _ => False) w) (fun _ _ h => h.elim) (fun b _ hp => hPX b hp) _ (c := none) (c' := none) trivial (h.gl i)
  · rcases hp with hp | ⟨j, j1, _, j3⟩ | ⟨j, j1, _⟩
    · have := h.ext.size
      exact h.Xb x (by omega) hp
    · have := h.id_lt j1 j3; omega
    · have := (h.owf x j j1).2.2; omega
  · obtain ⟨k, _, _, _, h4, _, h6⟩ := hlv n hn
    rw [h6]
    exact h.rv1 k h4
  · obtain ⟨k, hk, hkn⟩ := into_ow hb
    refine ⟨.inr (.inr ⟨n, hb⟩), ?_, (h.owf b k hk).2.2⟩
    rintro (hp | ⟨j, j1, j2, j3⟩ | ⟨j, j1, j2⟩)
    · exact (h.owf b k hk).2.1 hp
    · exact h.owi b k j hk j1 j3
    · rw [hk] at j1
      obtain rfl := Option.some.inj j1
      exact j2 (inM_mem hkn)
  · obtain ⟨k, hk, _⟩ := into_ow hb
    obtain ⟨k', _, _, _, h4, h5, _⟩ := hlv n' hn'
    rw [h5] at hid
    exact h.owi b k k' hk h4 hid

/-! ### And back -/
def backN (j : Nat) (ks : List Nat) (n : Nat) : Nat := match pos n ks with | some i => baseN + i | none => n - 10000 * (j + 1)
def isNew (c2 : Cx) (j : Nat) (ks : List Nat) (n : Nat) : Bool := c2.live (backN j ks n) && decide (outM j ks (backN j ks n) = some n)
def Cx.back (c c2 : Cx) (j : Nat) (ks : List Nat) : Cx :=
  { ids := fun n => if isNew c2 j ks n = true then c2.ids (backN j ks n) else c.ids n, rv := fun n => if isNew c2 j ks n = true then c2.rv (backN j ks n) else c.rv n, live := fun n => isNew c2 j ks n || (c.live n && !ks.contains n), ow := fun b => match c2.ow b with | some k => outM j ks k | none => (match c.ow b with | some k => if ks.contains k = true then none else some k | none => none) }
theorem back_ow {c c2 : Cx} {j : Nat} {ks : List Nat} {b n : Nat} (h : (c.back c2 j ks).ow b = some n) : (∃ k, c2.ow b = some k ∧ outM j ks k = some n) ∨ (c2.ow b = none ∧ c.ow b = some n ∧ n ∉ ks) := by
  simp only [Cx.back] at h
  split at h
  · exact .inl ⟨_, ‹_›, h⟩
  · split at h
    · split at h
      · cases h
      · rename_i hn
        cases h
        exact .inr ⟨‹_›, ‹_›, by simpa using hn⟩
    · cases h

theorem RdL.forgets {Z : Nat → Prop} {w : World} : ∀ (ks : List Nat) {c : Cx} {ds : List D} {vs : List Value}, RdL Z w (some c) ds vs → RdL Z w (some (c.drops ks)) (forgetLs ks ds) vs
  | [], c, ds, vs, h => by
    exact RdL.mono (Ext.refl (fun _ => False) w) (fun _ _ h => h.elim) (fun _ _ h => h) _ (c := some c) (c' := some (c.drops [])) (fun i hi => ⟨by simpa [Cx.drops] using hi, rfl, rfl⟩) h
  | k :: r, c, ds, vs, h => by
    have := RdL.forgets r (RdL.forget k ds h)
    exact RdL.mono (Ext.refl (fun _ => False) w) (fun _ _ h => h.elim) (fun _ _ h => h) _ (c := some ((c.drop k).drops r)) (c' := some (c.drops (k :: r))) (fun i hi => by
      simp only [Cx.drops, Cx.drop, Bool.and_eq_true, Bool.not_eq_true'] at hi
      obtain ⟨h1, h2⟩ := hi
      split at h1
      · cases h1
      · rename_i hik
        refine ⟨?_, rfl, rfl⟩
        simp only [Cx.drops, Bool.and_eq_true, Bool.not_eq_true', List.contains_cons, Bool.or_eq_false_iff]
        exact ⟨h1, by simpa using hik, h2⟩) this

def Ob.forgets (ks : List Nat) : Ob → Ob
  | .box cs => .box (forgetLs ks cs)
  | .rwh sz es i e => .rwh sz es i (forgetLs ks e)
  | o => o
theorem lk_dropObs : ∀ (ks : List Nat) (l : List (Nat × Ob)) (n : Nat), (dropObs ks l).lookup n = if ks.contains n = true then none else (l.lookup n).map (Ob.forgets ks)
  | [], l, n => by
    simp only [dropObs, List.contains_nil, Bool.false_eq_true, if_false]
    cases l.lookup n with
    | none => rfl
    | some o => cases o <;> rfl
  | k :: r, l, n => by
    simp only [dropObs]
    rw [lk_dropObs r, lk_forget, lk_del]
    by_cases hn : n = k
    · subst hn; simp
    · have : (n == k) = false := by simpa using hn
      simp only [List.contains_cons, this, Bool.false_or, if_neg hn]
      split
      · rfl
      · cases l.lookup n with
        | none => rfl
        | some o => cases o <;> rfl
def D.forgets : List Nat → D → D
  | [], d => d
  | k :: r, d => D.forgets r (d.forget k)
theorem forgetLs_map : ∀ (ks : List Nat) (ds : List D), forgetLs ks ds = ds.map (D.forgets ks)
  | [], ds => by
    have : D.forgets [] = id := rfl
    simp [forgetLs, this]
  | k :: r, ds => by
    simp only [forgetLs, forgetLs_map r, forgetL_map, List.map_map]
    rfl
theorem forgets_isSub : ∀ (ks : List Nat) (d : D), (d.forgets ks).isSub = d.isSub
  | [], d => rfl
  | k :: r, d => by simp only [D.forgets]; rw [forgets_isSub r, forget_isSub]
theorem forgets_sub : ∀ (ks : List Nat) (d : D), d.isSub = true → d.forgets ks = d
  | [], d, _ => rfl
  | k :: r, d, h => by simp only [D.forgets]; rw [forget_sub k d h, forgets_sub r d h]
theorem Ob.forgets_mapc (ks : List Nat) (o : Ob) : o.forgets ks = o.mapc (D.forgets ks) := by
  cases o <;> simp [Ob.forgets, Ob.mapc, forgetLs_map]
theorem lk_putObs : ∀ (l0 l : List (Nat × Ob)) (n : Nat), (putObs l0 l).lookup n = match l0.lookup n with | some o => some o | none => l.lookup n
  | [], l, n => by simp [putObs, List.lookup]
  | (k, o) :: r, l, n => by
    simp only [putObs]
    rw [lk_put]
    by_cases hn : n = k
    · subst hn; simp [List.lookup]
    · have : (n == k) = false := by simpa using hn
      simp only [if_neg hn, List.lookup, this]
      exact lk_putObs r l n

theorem outObs_some {j : Nat} {ks : List Nat} : ∀ {l : List (Nat × Ob)} {n : Nat} {o : Ob}, (outObs j ks l).lookup n = some o → ∃ k o', l.lookup k = some o' ∧ outM j ks k = some n ∧ o = o'.ren (outM j ks)
  | [], n, o, h => by simp [outObs, List.lookup] at h
  | (k, p) :: r, n, o, h => by
    simp only [outObs] at h
    cases hm : outM j ks k with
    | none =>
      rw [hm] at h
      obtain ⟨k', o', h1, h2, h3⟩ := outObs_some h
      refine ⟨k', o', ?_, h2, h3⟩
      have hne : k' ≠ k := fun e => by rw [e, hm] at h2; cases h2
      have : (k' == k) = false := by simpa using hne
      simp only [List.lookup, this]; exact h1
    | some q =>
      rw [hm] at h
      by_cases hn : n = q
      · subst hn
        simp only [List.lookup, beq_self_eq_true, Option.some.injEq] at h
        exact ⟨k, p, by simp [List.lookup], hm, h.symm⟩
      · have h1 : (n == q) = false := by simpa using hn
        simp only [List.lookup, h1] at h
        obtain ⟨k', o', g1, g2, g3⟩ := outObs_some h
        refine ⟨k', o', ?_, g2, g3⟩
        have hne : k' ≠ k := fun e => by rw [e, hm] at g2; exact hn (Option.some.inj g2).symm
        have : (k' == k) = false := by simpa using hne
        simp only [List.lookup, this]; exact g1
theorem outObs_get {j : Nat} {ks : List Nat} : ∀ {l : List (Nat × Ob)} {n k : Nat} {o : Ob}, (∀ k', (l.lookup k').isSome = true → outM j ks k' = some n → k' = k) → l.lookup k = some o → outM j ks k = some n → (outObs j ks l).lookup n = some (o.ren (outM j ks))
  | [], n, k, o, _, h, _ => by simp [List.lookup] at h
  | (i, p) :: r, n, k, o, hinj, h, hm => by
    simp only [outObs]
    by_cases hk : k = i
    · subst hk
      simp [List.lookup] at h
      subst h
      rw [hm]
      simp [List.lookup]
    · have h1 : (k == i) = false := by simpa using hk
      simp only [List.lookup, h1] at h
      have ih : (outObs j ks r).lookup n = some (o.ren (outM j ks)) := outObs_get (fun k' hk' hm' => by
        by_cases he : k' = i
        · exact hinj k' (by simp [List.lookup, he]) hm'
        · refine hinj k' ?_ hm'
          have : (k' == i) = false := by simpa using he
          simp only [List.lookup, this]; exact hk') h hm
      cases hq : outM j ks i with
      | none => exact ih
      | some q =>
        have : n ≠ q := fun e => hk ((hinj i (by simp [List.lookup]) (by rw [hq, e])).symm)
        have h2 : (n == q) = false := by simpa using this
        simp only [List.lookup, h2]; exact ih

theorem goneK_mem {ob : List (Nat × Ob)} : ∀ {r : List Nat} {i n : Nat}, n ∈ goneK ob i r ↔ ∃ q, r[q]? = some n ∧ (ob.lookup (baseN + (i + q))).isSome = false
  | [], i, n => by simp [goneK]
  | k :: r, i, n => by
    have ih := @goneK_mem ob r (i + 1) n
    simp only [goneK]
    have hstep : (∃ q, (k :: r)[q]? = some n ∧ (ob.lookup (baseN + (i + q))).isSome = false) ↔ (k = n ∧ (ob.lookup (baseN + i)).isSome = false) ∨ ∃ q, r[q]? = some n ∧ (ob.lookup (baseN + (i + 1 + q))).isSome = false := by
      constructor
      · rintro ⟨q, h1, h2⟩
        cases q with
        | zero => left; simp at h1; exact ⟨h1, h2⟩
        | succ q =>
          right
          refine ⟨q, by simpa using h1, ?_⟩
          have : i + (q + 1) = i + 1 + q := by omega
          rw [this] at h2; exact h2
      · rintro (⟨h1, h2⟩ | ⟨q, h1, h2⟩)
        · exact ⟨0, by simp [h1], h2⟩
        · refine ⟨q + 1, by simpa using h1, ?_⟩
          have : i + (q + 1) = i + 1 + q := by omega
          rw [this]; exact h2
    rw [hstep]
    cases hs : (ob.lookup (baseN + i)).isSome with
    | true =>
      rw [if_pos rfl, ih]
      constructor
      · exact .inr
      · rintro (⟨_, h⟩ | h)
        · cases h
        · exact h
    | false =>
      rw [if_neg (by simp), List.mem_cons, ih]
      constructor
      · rintro (h | h)
        · exact .inl ⟨h.symm, rfl⟩
        · exact .inr h
      · rintro (⟨h, _⟩ | h)
        · exact .inl h.symm
        · exact .inr h

theorem okNames_spec {n : Nat} {ob : List (Nat × Ob)} (h : okNames n ob = true) {k : Nat} (hk : (ob.lookup k).isSome = true) : k < 10000 ∨ baseN ≤ k ∧ k < baseN + n := by
  unfold okNames at h
  simp only [Bool.and_eq_true, List.all_eq_true, Bool.or_eq_true, decide_eq_true_eq] at h
  have hmem : ∀ (l : List (Nat × Ob)), (l.lookup k).isSome = true → ∃ o, (k, o) ∈ l := by
    intro l
    induction l with
    | nil => intro h; simp [List.lookup] at h
    | cons q l ih =>
      intro h
      obtain ⟨q1, q2⟩ := q
      by_cases hq : k = q1
      · exact ⟨q2, by simp [hq]⟩
      · have : (k == q1) = false := by simpa using hq
        simp only [List.lookup, this] at h
        obtain ⟨o, ho⟩ := ih h
        exact ⟨o, List.mem_cons_of_mem _ ho⟩
  obtain ⟨o, ho⟩ := hmem ob hk
  exact h.2 _ ho

theorem baseN_big : 10000 ≤ baseN := by unfold baseN; decide

theorem into_ids {ks : List Nat} {n i : Nat} (h : ks[i]? = some n) : (c.into ks).ids (baseN + i) = c.ids n ∧ (c.into ks).rv (baseN + i) = c.rv n := by
  have e : baseN + i - baseN = i := by omega
  constructor <;> simp only [Cx.into, e, h, Option.bind_some]
theorem into_live {ks : List Nat} {n : Nat} (h : (c.into ks).live n = true) : ∃ k, k ∈ ks ∧ (c.into ks).ids n = c.ids k := by
  simp only [Cx.into, Bool.and_eq_true, decide_eq_true_eq] at h
  have hk : ks[n - baseN]? = some (ks[n - baseN]'h.2) := List.getElem?_eq_getElem h.2
  exact ⟨_, List.getElem_mem h.2, by simp only [Cx.into, hk, Option.bind_some]⟩

theorem Sat.leave (h : Sat T X Y w0 c s a w) {ks : List Nat} (hap : apartN ks = true) (hall : ∀ k ∈ ks, (s.lk k).isSome = true) {w' : World} {c2 : Cx} {d : D} {ob : List (Nat × Ob)} {v : Value}
    (h2 : Sat T (XIn X c ks) ⟨(c.into ks).mine, c.into ks⟩ w c2 ⟨[d], ob⟩ { tmps := #[v], defers := [] } w')
    (hok : okNames ks.length ob = true) {j : Nat} (hj : ∀ k, (ob.lookup k).isSome = true → k < baseN → s.lk (10000 * (j + 1) + k) = none ∧ 10000 * (j + 1) + k < baseN) :
    Sat T X Y w0 (c.back c2 j ks) ⟨forgetLs (goneK ob 0 ks) s.tm, putObs (outObs j ks ob) (dropObs (goneK ob 0 ks) s.ob)⟩ a w' ∧ Rd (PX X (c.back c2 j ks)) w' (some (c.back c2 j ks)) (d.ren (outM j ks)) v := by
  have hbig := baseN_big
  have hl2 : ∀ k, c2.live k = (ob.lookup k).isSome := h2.live
  have hout : ∀ k, k < baseN → outM j ks k = some (10000 * (j + 1) + k) := fun k hk => by rw [outM, if_pos hk]
  have hout' : ∀ k, baseN ≤ k → outM j ks k = ks[k - baseN]? := fun k hk => by rw [outM, if_neg (by omega)]
  have F1 : ∀ k n, c2.live k = true → outM j ks k = some n → backN j ks n = k := by
    intro k n hk hm
    rw [hl2] at hk
    rcases okNames_spec hok hk with hlt | ⟨hle, _⟩
    · rw [hout k (by omega)] at hm
      obtain rfl := Option.some.inj hm
      have hnone := (hj k hk (by omega)).1
      unfold backN
      cases hp : pos (10000 * (j + 1) + k) ks with
      | none => simp only; omega
      | some i =>
        have := hall _ (List.mem_of_getElem? (pos_spec hp))
        rw [hnone] at this; cases this
    · rw [hout' k hle] at hm
      unfold backN
      rw [pos_get hap hm]
      simp only; omega
  have F2 : ∀ n, isNew c2 j ks n = true → c2.live (backN j ks n) = true ∧ outM j ks (backN j ks n) = some n := by
    intro n hn
    simpa only [isNew, Bool.and_eq_true, decide_eq_true_eq] using hn
  have F3 : ∀ k n, c2.live k = true → outM j ks k = some n → isNew c2 j ks n = true ∧ backN j ks n = k := by
    intro k n hk hm
    have hb := F1 k n hk hm
    exact ⟨by simp only [isNew, hb, hk, hm, decide_true, Bool.and_self], hb⟩
  have F4 : ∀ n, isNew c2 j ks n = true → n ∈ ks → c2.ids (backN j ks n) = c.ids n ∧ c2.rv (backN j ks n) = c.rv n := by
    intro n hn hk
    obtain ⟨q1, q2⟩ := F2 n hn
    cases hp : pos n ks with
    | none => exact absurd hk (pos_mem hp)
    | some i =>
      have hb : backN j ks n = baseN + i := by simp only [backN, hp]
      rw [hb] at q1 ⊢
      obtain ⟨b1, b2⟩ := h2.base (baseN + i) (by omega) q1
      obtain ⟨e1, e2⟩ := into_ids (c := c) (pos_spec hp)
      simp only at b1 b2
      exact ⟨by rw [← b1, e1], by rw [← b2, e2]⟩
  have F5 : ∀ n, isNew c2 j ks n = true → n ∉ ks → c.live n = false ∧ n < baseN := by
    intro n hn hk
    obtain ⟨q1, q2⟩ := F2 n hn
    have q1' := q1
    rw [hl2] at q1'
    rcases okNames_spec hok q1' with hlt | ⟨hle, _⟩
    · rw [hout _ (by omega)] at q2
      have := hj _ q1' (by omega)
      rw [Option.some.inj q2] at this
      exact ⟨by rw [h.live, this.1]; rfl, this.2⟩
    · rw [hout' _ hle] at q2
      exact absurd (List.mem_of_getElem? q2) hk
  have hm : ∀ k n, outM j ks k = some n → c2.live k = true → (c.back c2 j ks).live n = true ∧ (c.back c2 j ks).ids n = c2.ids k ∧ (c.back c2 j ks).rv n = c2.rv k := by
    intro k n hmk hk
    obtain ⟨q1, q2⟩ := F3 k n hk hmk
    exact ⟨by simp only [Cx.back, q1, Bool.true_or], by simp only [Cx.back, q1, if_true, q2], by simp only [Cx.back, q1, if_true, q2]⟩
  have F6 : ∀ n, (c.back c2 j ks).live n = true → isNew c2 j ks n = true ∨ (isNew c2 j ks n = false ∧ c.live n = true ∧ n ∉ ks) := by
    intro n hn
    cases hi : isNew c2 j ks n with
    | true => exact .inl rfl
    | false =>
      simp only [Cx.back, hi, Bool.false_or, Bool.and_eq_true, Bool.not_eq_true'] at hn
      exact .inr ⟨rfl, hn.1, by simpa using hn.2⟩
  have idn : ∀ n, isNew c2 j ks n = true → (c.back c2 j ks).ids n = c2.ids (backN j ks n) ∧ (c.back c2 j ks).rv n = c2.rv (backN j ks n) := fun n hn => ⟨by simp only [Cx.back, hn, if_true], by simp only [Cx.back, hn, if_true]⟩
  have ido : ∀ n, isNew c2 j ks n = false → (c.back c2 j ks).ids n = c.ids n ∧ (c.back c2 j ks).rv n = c.rv n := fun n hn => ⟨by simp only [Cx.back, hn, Bool.false_eq_true, if_false], by simp only [Cx.back, hn, Bool.false_eq_true, if_false]⟩
  have hblk : ∀ b, (c.into ks).mine b → (∃ k, k ∈ ks ∧ c.live k = true ∧ c.ids k = some b) ∨ ∃ k, k ∈ ks ∧ c.ow b = some k := by
    rintro b (⟨k, k1, k2⟩ | ⟨k, k1⟩)
    · obtain ⟨q, q1, q2⟩ := into_live k1
      exact .inl ⟨q, q1, by rw [h.live]; exact hall q q1, by rw [← q2]; exact k2⟩
    · obtain ⟨q, q1, q2⟩ := into_ow k1
      exact .inr ⟨q, inM_mem q2, q1⟩
  have hblkY : ∀ b, (c.into ks).mine b → w0.heap.size ≤ b ∨ Y.blk b := by
    intro b hb
    rcases hblk b hb with ⟨k, _, k2, k3⟩ | ⟨k, _, k2⟩
    · exact (h.fresh k b k2 k3).1
    · exact (h.owf b k k2).1
  have hYm : ∀ b, (c.into ks).mine b → PX X c b := by
    intro b hy
    rcases hblk b hy with ⟨k, _, k2, k3⟩ | ⟨k, _, k2⟩
    · exact .inr (.inl ⟨k, k2, k3⟩)
    · exact .inr (.inr ⟨k, k2⟩)
  have hPX3 : ∀ b, PX X (c.back c2 j ks) b → PX (XIn X c ks) c2 b := by
    intro b hp
    rcases hp with hp | ⟨n, hn, hb⟩ | ⟨n, hn⟩
    · exact .inl (.inl hp)
    · rcases F6 n hn with hi | ⟨hi, hl, hk⟩
      · rw [(idn n hi).1] at hb
        exact .inr (.inl ⟨_, (F2 n hi).1, hb⟩)
      · rw [(ido n hi).1] at hb
        exact .inl (.inr (.inl ⟨n, hl, hk, hb⟩))
    · rcases back_ow hn with ⟨k, hk, _⟩ | ⟨_, hk, hnk⟩
      · exact .inr (.inr ⟨k, hk⟩)
      · exact .inl (.inr (.inr ⟨n, hk, hnk⟩))
  have hPXo : ∀ b, b < w.heap.size → PX X (c.back c2 j ks) b → PX X c b := by
    intro b hlt hp
    rcases hp with hp | ⟨n, hn, hb⟩ | ⟨n, hn⟩
    · exact .inl hp
    · rcases F6 n hn with hi | ⟨hi, hl, hk⟩
      · rw [(idn n hi).1] at hb
        rcases (h2.fresh _ b (F2 n hi).1 hb).1 with hge | hy
        · omega
        · exact hYm b hy
      · rw [(ido n hi).1] at hb
        exact .inr (.inl ⟨n, hl, hb⟩)
    · rcases back_ow hn with ⟨k, hk, _⟩ | ⟨_, hk, hnk⟩
      · rcases (h2.owf b k hk).1 with hge | hy
        · omega
        · exact hYm b hy
      · exact .inr (.inr ⟨n, hk⟩)
  have hY : ∀ b, b < w.heap.size → (c.into ks).mine b → PX X c b := fun b _ hy => hYm b hy
  have hgone : ∀ n, n ∈ goneK ob 0 ks → n ∈ ks := fun n hn => by
    obtain ⟨q, q1, _⟩ := goneK_mem.1 hn
    exact List.mem_of_getElem? q1
  have hstay : ∀ n, n ∈ ks → n ∉ goneK ob 0 ks → isNew c2 j ks n = true := by
    intro n hn hg
    cases hp : pos n ks with
    | none => exact absurd hn (pos_mem hp)
    | some i =>
      have hs : (ob.lookup (baseN + i)).isSome = true := by
        cases hq : (ob.lookup (baseN + i)).isSome with
        | true => rfl
        | false => exact absurd (goneK_mem.2 ⟨i, pos_spec hp, by rw [Nat.zero_add]; exact hq⟩) hg
      refine (F3 (baseN + i) n (by rw [hl2]; exact hs) ?_).1
      rw [hout' _ (by omega)]
      have e : baseN + i - baseN = i := by omega
      rw [e]; exact pos_spec hp
  have hle : Cx.le (some (c.drops (goneK ob 0 ks))) (some (c.back c2 j ks)) := by
    intro n hn
    simp only [Cx.drops, Bool.and_eq_true, Bool.not_eq_true'] at hn
    obtain ⟨hl, hg⟩ := hn
    have hg' : n ∉ goneK ob 0 ks := by simpa using hg
    by_cases hk : n ∈ ks
    · have hi := hstay n hk hg'
      obtain ⟨e1, e2⟩ := F4 n hi hk
      obtain ⟨i1, i2⟩ := idn n hi
      exact ⟨by simp only [Cx.back, hi, Bool.true_or], i1.trans e1, i2.trans e2⟩
    · cases hi : isNew c2 j ks n with
      | true => rw [(F5 n hi hk).1] at hl; cases hl
      | false =>
        obtain ⟨i1, i2⟩ := ido n hi
        refine ⟨?_, i1, i2⟩
        have : ks.contains n = false := by simpa using hk
        simp only [Cx.back, hi, hl, this, Bool.false_or, Bool.not_false, Bool.and_self]
  have r3 : ∀ (ds : List D) (vs : List Value), RdL (PX X c) w (some c) ds vs → RdL (PX X (c.back c2 j ks)) w' (some (c.back c2 j ks)) (forgetLs (goneK ob 0 ks) ds) vs :=
    fun ds vs hd => RdL.mono h2.ext hY hPXo _ hle (RdL.forgets _ hd)
  have hlk : ∀ n, St.lk ⟨forgetLs (goneK ob 0 ks) s.tm, putObs (outObs j ks ob) (dropObs (goneK ob 0 ks) s.ob)⟩ n = match (outObs j ks ob).lookup n with | some o => some o | none => if (goneK ob 0 ks).contains n = true then none else (s.lk n).map (Ob.forgets (goneK ob 0 ks)) := by
    intro n
    unfold St.lk
    simp only
    rw [lk_putObs, lk_dropObs]
  have hnew : ∀ n, isNew c2 j ks n = true → ∃ o, ob.lookup (backN j ks n) = some o ∧ (outObs j ks ob).lookup n = some (o.ren (outM j ks)) := by
    intro n hn
    obtain ⟨q1, q2⟩ := F2 n hn
    have q1' := q1
    rw [hl2] at q1'
    obtain ⟨o, ho⟩ := Option.isSome_iff_exists.1 q1'
    exact ⟨o, ho, outObs_get (fun k' hk' hm' => (F1 k' n (by rw [hl2]; exact hk') hm').symm) ho q2⟩
  have hold : ∀ n, isNew c2 j ks n = false → (outObs j ks ob).lookup n = none := by
    intro n hn
    cases hq : (outObs j ks ob).lookup n with
    | none => rfl
    | some o =>
      obtain ⟨k, o', k1, k2, _⟩ := outObs_some hq
      have := (F3 k n (by rw [hl2, k1]; rfl) k2).1
      rw [hn] at this; cases this
  have hwsz := h2.ext.size
  refine ⟨⟨fun n => ?_, r3 _ _ h.tm, fun n o hn => ?_, fun n n' b hn hn' hb hb' => ?_, fun n b hn hb => ?_, ?_, fun i => ?_, h.Xb, fun n hn => ?_, h.dfs, fun n hn hl => ?_, fun b n hb => ?_, fun b n m hb hm' hid => ?_⟩, ?_⟩
  · rw [hlk]
    cases hi : isNew c2 j ks n with
    | true =>
      obtain ⟨o, _, ho⟩ := hnew n hi
      rw [ho]
      simp only [Cx.back, hi, Bool.true_or, Option.isSome_some]
    | false =>
      rw [hold n hi]
      simp only [Cx.back, hi, Bool.false_or]
      by_cases hk : n ∈ ks
      · have hg : n ∈ goneK ob 0 ks := by
          refine Classical.byContradiction fun hg => ?_
          have := hstay n hk hg
          rw [hi] at this; cases this
        have e1 : ks.contains n = true := by simpa using hk
        have e2 : (goneK ob 0 ks).contains n = true := by simpa using hg
        rw [e1, e2]
        simp
      · have e1 : ks.contains n = false := by simpa using hk
        have e2 : (goneK ob 0 ks).contains n = false := by
          have : n ∉ goneK ob 0 ks := fun hg => hk (hgone n hg)
          simpa using this
        rw [e1, e2, h.live]
        cases s.lk n <;> rfl
  · rw [hlk] at hn
    cases hi : isNew c2 j ks n with
    | true =>
      obtain ⟨o', ho', hq⟩ := hnew n hi
      rw [hq] at hn
      cases hn
      have hob := h2.ob (backN j ks n) o' ho'
      obtain ⟨i1, i2⟩ := idn n hi
      rw [Ob.ren_mapc]
      exact ObOK.tr (c' := c.back c2 j ks) (k' := n) (D.ren (outM j ks)) (Ext.refl (fun _ => False) w') (fun _ _ h => h.elim) (fun b _ hp => hPX3 b hp) i1 i2 (fun _ _ h => h) (fun b hb => ⟨id, by simp only [Cx.back, hb]; exact (F2 n hi).2⟩) (fun d v hd => ren_read (fun b _ hp => hPX3 b hp) (fun k n => hm k n) d hd) (ren_isSub _) (ren_sub _) hob
    | false =>
      rw [hold n hi] at hn
      simp only at hn
      split at hn
      · cases hn
      · rename_i hg
        cases hq : s.lk n with
        | none => rw [hq] at hn; cases hn
        | some q =>
          rw [hq] at hn
          simp at hn
          subst hn
          have hl : c.live n = true := by rw [h.live, hq]; rfl
          have hk : n ∉ ks := fun hk => by
            have := hstay n hk (by simpa using hg)
            rw [hi] at this; cases this
          have hob := h.ob n q hq
          obtain ⟨i1, i2⟩ := ido n hi
          have hne : ∀ b, c.ids n = some b → ¬ (c.into ks).mine b := by
            intro b hb hy
            rcases hblk b hy with ⟨k, k1, k2, k3⟩ | ⟨k, k1, k2⟩
            · exact hk (h.inj k n b k2 hl k3 hb ▸ k1)
            · exact h.owi b k n k2 hl hb
          rw [Ob.forgets_mapc]
          refine ObOK.tr (c' := c.back c2 j ks) (k' := n) (D.forgets (goneK ob 0 ks)) h2.ext hY hPXo i1 i2 hne (fun b hb => ⟨fun hy => ?_, ?_⟩) (fun d v hd => ?_) (forgets_isSub _) (forgets_sub _) hob
          · rcases hblk b hy with ⟨k, k1, k2, k3⟩ | ⟨k, k1, k2⟩
            · exact h.owi b n k hb k2 k3
            · rw [hb] at k2
              obtain rfl := Option.some.inj k2
              exact hk k1
          · have hc2 : c2.ow b = none := by
              cases hq2 : c2.ow b with
              | none => rfl
              | some k2 => exact absurd (.inr (.inr ⟨n, hb, hk⟩)) (h2.owf b k2 hq2).2.1
            have hkc : ks.contains n = false := by simpa using hk
            simp only [Cx.back, hc2, hb, hkc, Bool.false_eq_true, if_false]
          · have := r3 [d] [v] (by simp only [RdL]; exact ⟨v, [], rfl, hd, rfl⟩)
            rw [forgetLs_map] at this
            simp only [List.map_cons, List.map_nil, RdL] at this
            obtain ⟨v', r', e1, e2, _⟩ := this
            simp at e1
            obtain ⟨rfl, _⟩ := e1
            exact e2
  · rcases F6 n hn with hi | ⟨hi, hl, hk⟩ <;> rcases F6 n' hn' with hi' | ⟨hi', hl', hk'⟩
    · rw [(idn n hi).1] at hb
      rw [(idn n' hi').1] at hb'
      obtain ⟨q1, q2⟩ := F2 n hi
      obtain ⟨q1', q2'⟩ := F2 n' hi'
      have := h2.inj _ _ b q1 q1' hb hb'
      rw [this, q2'] at q2
      exact (Option.some.inj q2).symm
    · rw [(idn n hi).1] at hb
      rw [(ido n' hi').1] at hb'
      exact absurd (.inr (.inl ⟨n', hl', hk', hb'⟩)) (h2.fresh _ b (F2 n hi).1 hb).2
    · rw [(ido n hi).1] at hb
      rw [(idn n' hi').1] at hb'
      exact absurd (.inr (.inl ⟨n, hl, hk, hb⟩)) (h2.fresh _ b (F2 n' hi').1 hb').2
    · rw [(ido n hi).1] at hb
      rw [(ido n' hi').1] at hb'
      exact h.inj n n' b hl hl' hb hb'
  · rcases F6 n hn with hi | ⟨hi, hl, hk⟩
    · rw [(idn n hi).1] at hb
      obtain ⟨q1, q2⟩ := h2.fresh _ b (F2 n hi).1 hb
      refine ⟨?_, fun hx => q2 (.inl hx)⟩
      rcases q1 with q1 | q1
      · have := h.ext.size
        exact .inl (by omega)
      · exact hblkY b q1
    · rw [(ido n hi).1] at hb
      exact h.fresh n b hl hb
  · exact h.ext.trans' h2.ext fun b hb hlt => hblkY b hb
  · exact Rd.mono h2.ext hY hPXo _ (c := none) (c' := none) trivial (h.gl i)
  · rcases F6 n hn with hi | ⟨hi, hl, hk⟩
    · rw [(idn n hi).2]; exact h2.rv1 _ (F2 n hi).1
    · rw [(ido n hi).2]; exact h.rv1 n hl
  · rcases F6 n hl with hi | ⟨hi, hl, hk⟩
    · by_cases hk : n ∈ ks
      · obtain ⟨e1, e2⟩ := F4 n hi hk
        rw [(idn n hi).1, (idn n hi).2, e1, e2]
        exact h.base n hn (by rw [h.live]; exact hall n hk)
      · have := (F5 n hi hk).2; omega
    · rw [(ido n hi).1, (ido n hi).2]
      exact h.base n hn hl
  · rcases back_ow hb with ⟨k, hk, _⟩ | ⟨_, hk, _⟩
    · obtain ⟨q1, q2, q3⟩ := h2.owf b k hk
      refine ⟨?_, fun hx => q2 (.inl hx), q3⟩
      rcases q1 with q1 | q1
      · have := h.ext.size
        exact .inl (by omega)
      · exact hblkY b q1
    · obtain ⟨q1, q2, q3⟩ := h.owf b n hk
      exact ⟨q1, q2, by omega⟩
  · rcases back_ow hb with ⟨k, hk, _⟩ | ⟨_, hk, hnk⟩ <;> rcases F6 m hm' with hi | ⟨hi, hl, hmk⟩
    · rw [(idn m hi).1] at hid
      exact h2.owi b k _ hk (F2 m hi).1 hid
    · rw [(ido m hi).1] at hid
      exact (h2.owf b k hk).2.1 (.inr (.inl ⟨m, hl, hmk, hid⟩))
    · rw [(idn m hi).1] at hid
      exact (h2.fresh _ b (F2 m hi).1 hid).2 (.inr (.inr ⟨n, hk, hnk⟩))
    · rw [(ido m hi).1] at hid
      exact h.owi b n m hk hl hid
  · have htm := h2.tm
    simp only [RdL] at htm
    obtain ⟨v', r, e1, e2, _⟩ := htm
    simp at e1
    obtain ⟨rfl, _⟩ := e1
    exact ren_read (fun b _ hp => hPX3 b hp) (fun k n => hm k n) _ e2

end
end Go.Vcg
