/-
  Single operations of the model do on the world what they do on data, part two. For every program; no conditions but those that each theorem names.
-/
import Derived.Test.YtccoiplnonfkgaaVcgB
import Derived.Laws.MakeOwn
set_option linter.unusedVariables false
set_option linter.unusedSimpArgs false
namespace Go.Vcg
section
variable {P : Program} {T : Tb} {X : Nat → Prop} {Y : Env} {w0 w : World} {c : Cx} {s : St} {a : Act}

/-! ### The walk's objects -/
theorem lk_put (k : Nat) (o : Ob) : ∀ (l : List (Nat × Ob)) (j : Nat), (obPut k o l).lookup j = if j = k then some o else l.lookup j
  | [], j => by simp [obPut, List.lookup]; split <;> simp_all
  | (i, p) :: r, j => by
    simp only [obPut]
    split
    · rename_i h
      subst h
      by_cases hj : j = i
      · simp [List.lookup, hj]
      · have : (j == i) = false := by simpa using hj
        simp [List.lookup, this, hj]
    · rename_i h
      by_cases hj : j = i
      · have : i ≠ k := h
        simp [List.lookup, hj, this]
      · have h1 : (j == i) = false := by simpa using hj
        simp only [List.lookup, h1]
        rw [lk_put k o r j]

theorem lk_del (k : Nat) : ∀ (l : List (Nat × Ob)) (j : Nat), (obDel k l).lookup j = if j = k then none else l.lookup j
  | [], j => by simp [obDel, List.lookup]
  | (i, p) :: r, j => by
    simp only [obDel]
    split
    · rename_i h
      subst h
      rw [lk_del i r j]
      by_cases hj : j = i
      · simp [hj]
      · have : (j == i) = false := by simpa using hj
        simp [List.lookup, this, hj]
    · rename_i h
      by_cases hj : j = i
      · have : i ≠ k := h
        simp [List.lookup, hj, this]
      · have h1 : (j == i) = false := by simpa using hj
        simp only [List.lookup, h1]
        rw [lk_del k r j]

theorem lk_forget (k : Nat) : ∀ (l : List (Nat × Ob)) (j : Nat), (forgetO k l).lookup j = (l.lookup j).map (Ob.forget k)
  | [], j => by simp [forgetO, List.lookup]
  | (i, p) :: r, j => by
    simp only [forgetO]
    by_cases hj : j = i
    · simp [List.lookup, hj]
    · have h1 : (j == i) = false := by simpa using hj
      simp only [List.lookup, h1]
      exact lk_forget k r j

theorem Sat.id_lt (h : Sat T X Y w0 c s a w) {k b : Nat} (hl : c.live k = true) (hb : c.ids k = some b) : b < w.heap.size := by
  rw [h.live] at hl
  obtain ⟨o, ho⟩ := Option.isSome_iff_exists.1 hl
  have := h.ob k o ho
  cases o with
  | box cs =>
    obtain ⟨b', arr, U, e1, e2, _⟩ := this
    rw [hb] at e1
    obtain rfl := Option.some.inj e1
    exact (Array.getElem?_eq_some_iff.1 e2).1
  | row sz es =>
    obtain ⟨vs, U, e1, _, _⟩ := this
    exact e1.lt hb

/-- Another place for the objects, the same where they are. -/
def Cx.with (c : Cx) (k : Nat) (b : Option Nat) (v : Value) : Cx :=
  { ids := fun j => if j = k then b else c.ids j, rv := fun j => if j = k then v else c.rv j, live := fun j => if j = k then true else c.live j }

/-- The world goes on: blocks of the walk's own may turn. What reads off them stays. -/
theorem Sat.reads (h : Sat T X Y w0 c s a w) {w' : World} {c' : Cx} (hE : Ext (PX X c) w w') (hle : Cx.le (some c) (some c')) (hX : ∀ b, b < w.heap.size → PX X c' b → PX X c b) :
    (∀ (d : D) (v : Value), Rd (PX X c) w (some c) d v → Rd (PX X c') w' (some c') d v) ∧ (∀ (d : D) (v : Value), Rd (PX X c) w none d v → Rd (PX X c') w' none d v) ∧
    (∀ (ds : List D) (vs : List Value), RdL (PX X c) w (some c) ds vs → RdL (PX X c') w' (some c') ds vs) ∧ (∀ (sz : Nat) (es : List (List D)) (vs : List Value), RdE (PX X c) w sz es vs → RdE (PX X c') w' sz es vs) :=
  ⟨fun d v hd => Rd.mono hE (fun _ _ h => h) hX d hle hd, fun d v hd => Rd.mono hE (fun _ _ h => h) hX d (c := none) (c' := none) trivial hd, fun ds vs hd => RdL.mono hE (fun _ _ h => h) hX ds hle hd, fun sz es vs hd => RdE.mono hE (fun _ _ h => h) hX es hd⟩

/-- A new object in a new block. -/
theorem Sat.new (h : Sat T X Y w0 c s a w) {k : Nat} (hk : s.lk k = none) (hkb : k < baseN) {w' : World} (hE : Ext (fun _ => False) w w') {b : Option Nat} (hb : ∀ x, b = some x → w.heap.size ≤ x ∧ x < w'.heap.size) {v : Value} (hv : v.cells = #[v] ∧ v.oneCell' = true) {o : Ob}
    (ho : (∀ (ds : List D) (vs : List Value), RdL (PX X c) w (some c) ds vs → RdL (PX X (c.with k b v)) w' (some (c.with k b v)) ds vs) → (∀ (sz : Nat) (es : List (List D)) (vs : List Value), RdE (PX X c) w sz es vs → RdE (PX X (c.with k b v)) w' sz es vs) → ObOK X w' (c.with k b v) k o) :
    Sat T X Y w0 (c.with k b v) { s with ob := obPut k o s.ob } a w' := by
  have hlive : c.live k = false := by rw [h.live, hk]; rfl
  have hle : Cx.le (some c) (some (c.with k b v)) := by
    intro j hj
    have : j ≠ k := fun e => by subst e; rw [hlive] at hj; cases hj
    simp [Cx.with, this, hj]
  have hPX : ∀ x, x < w.heap.size → PX X (c.with k b v) x → PX X c x := by
    intro x hx hp
    rcases hp with hp | ⟨j, hj, hij⟩
    · exact .inl hp
    · by_cases hjk : j = k
      · subst hjk
        simp [Cx.with] at hij
        have := hb x hij
        omega
      · simp [Cx.with, hjk] at hj hij
        exact .inr ⟨j, hj, hij⟩
  have hE' : Ext (PX X c) w w' := hE.mono fun _ _ h => h.elim
  obtain ⟨r1, r2, r3, r4⟩ := h.reads hE' hle hPX
  have hlk : ∀ j, St.lk { s with ob := obPut k o s.ob } j = if j = k then some o else s.lk j := fun j => lk_put k o s.ob j
  have hw0 : w0.heap.size ≤ w.heap.size := h.ext.size
  refine ⟨?_, r3 _ _ h.tm, ?_, ?_, ?_, h.ext.trans (hE.mono fun _ _ h => h.elim), fun i => r2 _ _ (h.gl i), h.Xb, ?_, h.dfs, ?_⟩
  · intro j
    rw [hlk]
    by_cases hj : j = k
    · simp [Cx.with, hj]
    · simp [Cx.with, hj, h.live]
  · intro j p hp
    rw [hlk] at hp
    by_cases hj : j = k
    · subst hj
      simp at hp
      subst hp
      exact ho r3 r4
    · simp [hj] at hp
      have hold := h.ob j p hp
      cases p with
      | box cs =>
        obtain ⟨b', arr, U, e1, e2, e3⟩ := hold
        exact ⟨b', arr, U, by simp [Cx.with, hj, e1], by rw [hE.block b' (Array.getElem?_eq_some_iff.1 e2).1 id]; exact e2, r3 _ _ e3⟩
      | row sz es =>
        obtain ⟨vs, U, e1, e2, e3⟩ := hold
        exact ⟨vs, U, by simpa [Cx.with, hj] using e1.ext hE (fun _ _ h => h), r4 _ _ _ e2, e3⟩
  · intro i j x hi hj hix hjx
    by_cases hik : i = k <;> by_cases hjk : j = k
    · rw [hik, hjk]
    · subst hik
      simp [Cx.with] at hix
      simp [Cx.with, hjk] at hj hjx
      have h1 := hb x hix
      exact absurd (Nat.lt_of_lt_of_le (h.id_lt hj hjx) h1.1) (Nat.lt_irrefl _)
    · subst hjk
      simp [Cx.with] at hjx
      simp [Cx.with, hik] at hi hix
      have h1 := hb x hjx
      exact absurd (Nat.lt_of_lt_of_le (h.id_lt hi hix) h1.1) (Nat.lt_irrefl _)
    · simp [Cx.with, hik, hjk] at hi hj hix hjx
      exact h.inj i j x hi hj hix hjx
  · intro j x hj hjx
    by_cases hjk : j = k
    · subst hjk
      simp [Cx.with] at hjx
      have h1 := hb x hjx
      exact ⟨.inl (by omega), h.Xb x (by omega)⟩
    · simp [Cx.with, hjk] at hj hjx
      exact h.fresh j x hj hjx
  · intro j hj
    by_cases hjk : j = k
    · subst hjk; simpa [Cx.with] using hv
    · simp [Cx.with, hjk] at hj ⊢
      exact h.rv1 j hj
  · intro j hj hl
    have hjk : j ≠ k := by omega
    simp [Cx.with, hjk] at hl ⊢
    exact h.base j hj hl

theorem Ext.alloc (w : World) (o : Obj) : Ext (fun _ => False) w (w.alloc o) := ⟨rfl, rfl, rfl, by simp, fun k hk _ => RowKit.Below.heap_alloc w o k hk⟩

theorem Sat.newBox (h : Sat T X Y w0 c s a w) {k : Nat} (hk : s.lk k = none) (hkb : k < baseN) {cs : List D} {vs : List Value} (hr : RdL (PX X c) w (some c) cs vs) (U : TypeId) :
    Sat T X Y w0 (c.with k (some w.heap.size) (.pointer (some ⟨w.heap.size, 0, none⟩))) { s with ob := obPut k (.box cs) s.ob } a (w.alloc (.cells vs.toArray U)) :=
  h.new hk hkb (Ext.alloc _ _) (fun x hx => by simp at hx; subst hx; simp) ⟨rfl, rfl⟩ fun r _ => ⟨w.heap.size, vs.toArray, U, by simp [Cx.with], heap_alloc_new _ _, r _ _ hr⟩

theorem Sat.newRow (h : Sat T X Y w0 c s a w) {k : Nat} (hk : s.lk k = none) (hkb : k < baseN) {sz n : Nat} {es : List (List D)} {vs : List Value} (hr : RdE (PX X c) w sz es vs) (h1 : ∀ u ∈ vs, u.oneCell' = true) (hn : es.length = n) (hm : n ≤ maxLen) (U : TypeId) :
    Sat T X Y w0 (c.with k (some w.heap.size) (.slice (some ⟨w.heap.size, 0, none⟩) n n)) { s with ob := obPut k (.row sz es) s.ob } a (w.alloc (.cells vs.toArray U)) :=
  h.new hk hkb (Ext.alloc _ _) (fun x hx => by simp at hx; subst hx; simp) ⟨rfl, rfl⟩ fun _ r => by
    have hl := hr.length
    refine ⟨vs, U, ⟨hl, .inr ⟨w.heap.size, n, vs.toArray, by simp [Cx.with, hn], by simp [Cx.with], heap_alloc_new _ _, by omega, hm, ?_, ?_⟩⟩, r _ _ _ hr, h1⟩
    · simp [hl, hn]
    · rw [← hl]; simp

/-- A new box, with the slot that points to it. -/
theorem snd_alloc (h : Sat T X Y w0 c s a w) {o : Oper} {U : TypeId} {cs : List D} (ho : o.op = .alloc U) (hz : zeroT P U = some cs) {k : Nat} (hd : o.dst = some k) (hk : s.lk k = none) (hkb : k < baseN) :
    ∃ v w' c', (execOp a.eval o).run P w = .ok (.value v) w' ∧ Sat T X Y w0 c' ((St.mk s.tm (obPut k (.box cs) s.ob)).set (some k) (.own k 0)) (a.put o.dst v) w' := by
  obtain ⟨it, z, hi, hz1, hz2⟩ := zeroT_spec hz
  have hn := h.newBox hk hkb (mL_read (w := w) hz2) U
  simp only [Array.toArray_toList] at hn
  refine ⟨.pointer (some ⟨w.heap.size, 0, none⟩), w.alloc (.cells z.cells U), c.with k (some w.heap.size) (.pointer (some ⟨w.heap.size, 0, none⟩)), ?_, ?_⟩
  · simp only [execOp, ho, Instr.alloc, Sem.run_bind, zeroValue, typeInfo, program, Sem.run, hi, hz1, Sem.run_pure, Result.andThen_ok, newVar, newRow, newObj]
    rfl
  · rw [hd]
    have := hn.put (some k) (d := .own k 0) (v := .pointer (some ⟨w.heap.size, 0, none⟩)) (by simp only [Rd]; exact ⟨by simp [Cx.with], w.heap.size, by simp [Cx.with], rfl⟩)
    simpa using this

theorem snd_box (h : Sat T X Y w0 c s a w) {o : Oper} {U : TypeId} {x : Operand} {y : Opd} (ho : o.op = .box U x) (hx : cOpd P U x = some y) (hg : (y.ev T s).gu = true) (hc : (y.ev T s).un.cells.all D.cell' = true) {k : Nat} (hd : o.dst = some k) (hk : s.lk k = none) (hkb : k < baseN) :
    ∃ v w' c', (execOp a.eval o).run P w = .ok (.value v) w' ∧ Sat T X Y w0 c' ((St.mk s.tm (obPut k (.box (y.ev T s).un.cells) s.ob)).set (some k) (.own k 0)) (a.put o.dst v) w' := by
  have hn := h.newBox hk hkb (h.cells (h.opdU hx hg) hc) U
  simp only [Array.toArray_toList] at hn
  refine ⟨.pointer (some ⟨w.heap.size, 0, none⟩), w.alloc (.cells (a.eval x).cells U), c.with k (some w.heap.size) (.pointer (some ⟨w.heap.size, 0, none⟩)), ?_, ?_⟩
  · simp only [execOp, ho, Instr.box, Sem.run_bind, Sem.run_pure, Result.andThen_ok, newVar, newRow, newObj, Sem.run]
    rfl
  · rw [hd]
    have := hn.put (some k) (d := .own k 0) (v := .pointer (some ⟨w.heap.size, 0, none⟩)) (by simp only [Rd]; exact ⟨by simp [Cx.with], w.heap.size, by simp [Cx.with], rfl⟩)
    simpa using this

/-- An empty slice without room. -/
theorem snd_emp (h : Sat T X Y w0 c s a w) {o : Oper} {U e : TypeId} {x hi mx : Operand} {y : Opd} {n : Nat} {kh km : IntKind} (ho : o.op = .slice U x none (some hi) (some mx)) (hu : P.underlying U = some (.slice e)) (hn : sizeT P e = some n) (hx : cOpd P U x = some y) (hhi : cOpd P 0 hi = some (.c (.int kh 0))) (hmx : cOpd P 0 mx = some (.c (.int km 0))) (hg : (y.ev T s).gu = true)
    (hk0 : (∃ sz es, (y.ev T s).un = .fz sz es) ∨ ∃ z, (y.ev T s).un = .nl z) {k : Nat} (hd : o.dst = some k) (hk : s.lk k = none) (hkb : k < baseN) :
    ∃ v w' c', (execOp a.eval o).run P w = .ok (.value v) w' ∧ Sat T X Y w0 c' ((St.mk s.tm (obPut k (.row n []) s.ob)).set (some k) (.row k)) (a.put o.dst v) w' := by
  have hr := h.opdU hx hg
  have hrh := h.opd hhi
  have hrm := h.opd hmx
  simp only [Opd.ev, Rd] at hrh hrm
  have he : execOp a.eval o = (do pure (.value (← Instr.sliceAt U (a.eval x) none (some (a.eval hi)) (some (a.eval mx))))) := by simp only [execOp, ho]; rfl
  have hsz := run_sizeOf (P := P) hn w
  have hb : ∀ len cap, (Instr.sliceBounds true len cap none (some (.int kh 0)) (some (.int km 0))).run P w = .ok (0, 0, 0) w := by
    intro len cap
    have h1 := run_sliceBound (P := P) (w := w) (k := km) (show 0 ≤ cap by omega) .slice3Acap
    have h2 := run_sliceBound (P := P) (w := w) (k := kh) (show 0 ≤ 0 by omega) .slice3B
    simp only [Int.ofNat_eq_natCast, Int.natCast_zero] at h1 h2
    have h1' : (Instr.sliceBound (.int km 0) cap .slice3Acap).run P w = .ok 0 w := h1
    have h2' : (Instr.sliceBound (.int kh 0) 0 .slice3B).run P w = .ok 0 w := h2
    simp [Instr.sliceBounds, h1', h2']
  have hsl : ∃ o0 len cap, a.eval x = .slice o0 len cap := by
    rcases hk0 with ⟨sz, es, hk0⟩ | ⟨z, hk0⟩
    · rw [hk0] at hr
      simp only [Rd] at hr
      rcases hr with ⟨⟨o0, hv⟩, _⟩ | ⟨b, off, cap, vs, hv, _⟩
      · exact ⟨_, _, _, hv⟩
      · exact ⟨_, _, _, hv⟩
    · rw [hk0] at hr
      simp only [Rd] at hr
      exact ⟨_, _, _, hr⟩
  obtain ⟨o0, len, cap, hv⟩ := hsl
  have key : (Instr.sliceAt U (.slice o0 len cap) none (some (.int kh 0)) (some (.int km 0))).run P w = .ok (.slice o0 0 0) w := by
    simp only [Instr.sliceAt, Sem.run_bind, run_underlying hu, Result.andThen_ok, Instr.slice, hb len cap, hsz, Sem.run_pure]
    simp
  have hnew := h.new hk hkb (Ext.refl (fun _ => False) w) (b := none) (by simp) (v := .slice o0 0 0) ⟨rfl, rfl⟩ (o := .row n []) (fun _ _ => ⟨[], 0, by simpa [Cx.with] using OwnsR.nil w 0 n o0, by simp [RdE], by simp⟩)
  refine ⟨.slice o0 0 0, w, c.with k none (.slice o0 0 0), ?_, ?_⟩
  · rw [he, hv, hrh, hrm, Sem.run_bind, key]; rfl
  · rw [hd]
    exact hnew.put (some k) (d := .row k) (by simp only [Rd]; exact ⟨by simp [Cx.with], by simp [Cx.with]⟩)

/-! ### Slice literals -/
theorem fill_rows (hS : Sat T X Y w0 c s a w) {e : TypeId} {sz : Nat} {place : Nat → Option (Nat × Nat)} (hpl : ∀ i, place i = some (i * sz, sz)) :
    ∀ {ps : List (Nat × Operand)} {qs : List (Nat × Opd)}, cRows P e ps = some qs → gus T s (qs.map (·.2)) → ∀ {es : List (List D)} {us : List Value} {φ : Prop} {out : List (List D)}, fillRows sz (fun x => (x.ev T s).un) qs es = some (φ, out) → φ →
      RdE (PX X c) w sz es us → (∀ u ∈ us, u.oneCell' = true) → ∃ vs, Instr.fill place us.toArray (ps.map fun p => (p.1, a.eval p.2)) = some vs.toArray ∧ RdE (PX X c) w sz out vs ∧ (∀ u ∈ vs, u.oneCell' = true) ∧ out.length = es.length
  | [], qs, h, _, es, us, φ, out, hf, _, hr, h1 => by
    simp [cRows] at h
    subst h
    simp only [fillRows, Option.some.injEq, Prod.mk.injEq] at hf
    obtain ⟨_, rfl⟩ := hf
    exact ⟨us, rfl, hr, h1, rfl⟩
  | (i, x) :: ps, qs, h, hg, es, us, φ, out, hf, hφ, hr, h1 => by
    simp only [cRows] at h
    split at h
    · rename_i y l hy hl
      simp at h
      subst h
      simp only [List.map_cons, gus] at hg
      simp only [fillRows] at hf
      split at hf
      · rename_i ψ out' hf'
        simp only [Option.some.injEq, Prod.mk.injEq] at hf
        obtain ⟨rfl, rfl⟩ := hf
        obtain ⟨g1, g2, g3, g4⟩ := hφ
        have hc' : (y.ev T s).un.cells.all D.cell' = true := by
          rw [List.all_eq_true] at g2 ⊢
          exact fun d hd => cell_cell' (g2 d hd)
        have hd := hS.cells (hS.opdU hy hg.1) hc'
        have hone := hS.ones hd hc'
        have hd0 : RdL (PX X c) w none ((y.ev T s).un.cells.map D.pl) (a.eval x).cells.toList := (hd.open_ g2).pl
        have hlen := hd.length
        have hul := hr.length
        have hsz : (a.eval x).cells.toList.length = sz := hlen.trans g1
        have hin : i * sz + sz ≤ us.length := by rw [hul, ← Nat.succ_mul]; exact Nat.mul_le_mul_right sz g3
        obtain ⟨vs, e1, e2, e3, e4⟩ := fill_rows hS hpl hl hg.2 hf' g4 (RdE.set i hd0 hsz hr g3) (by
          intro u hu
          rw [List.mem_append, List.mem_append] at hu
          rcases hu with (hu | hu) | hu
          · exact h1 u (List.mem_of_mem_take hu)
          · exact hone u hu
          · exact h1 u (List.mem_of_mem_drop hu))
        refine ⟨vs, ?_, e2, e3, by rw [e4]; simp⟩
        rw [List.map_cons, fill_cons (hpl i) (by simpa using hsz) (by simpa using hin)]
        rw [← e1]
      · simp at hf
    · simp at h

theorem rows_replicate {sz : Nat} {ds : List D} {vs : List Value} (h : RdL X w none ds vs) (hl : vs.length = sz) : ∀ n, RdE X w sz (List.replicate n ds) (List.replicate n vs).flatten
  | 0 => by simp [RdE]
  | n + 1 => by
    simp only [List.replicate_succ, List.flatten_cons, RdE]
    exact ⟨vs, _, rfl, hl, h, rows_replicate h hl n⟩

theorem range_cells (z : Array Value) (n : Nat) (hz : 0 < z.size) : ((Array.range (n * z.size)).map (z[· % z.size]!)) = ((List.replicate n z.toList).flatten).toArray := by
  apply Array.ext'
  simp only [Array.toList_map, Array.toList_range]
  induction n with
  | zero => simp
  | succ n ih =>
    rw [Nat.succ_mul, List.range_add, List.map_append, ih, List.replicate_succ', List.flatten_append]
    congr 1
    simp only [List.map_map, List.flatten_cons, List.flatten_nil, List.append_nil]
    apply List.ext_getElem
    · simp
    · intro i h1 h2
      simp at h1
      simp [Nat.mod_eq_of_lt h1, h1]

theorem snd_bslice (h : Sat T X Y w0 c s a w) {o : Oper} {U e : TypeId} {n sz : Nat} {parts : Array (Nat × Operand)} {zs : List D} {qs : List (Nat × Opd)} (ho : o.op = .buildSlice U n parts) (hu : P.underlying U = some (.slice e)) (hz : zeroT P e = some zs) (hsz : sizeT P e = some sz) (hq : cRows P e parts.toList = some qs)
    (hzl : zs.length = sz) (h0 : 0 < sz) (hn0 : 0 < n) (hmax : n * sz ≤ 16777216) (hg : gus T s (qs.map (·.2))) {φ : Prop} {es : List (List D)} (hf : fillRows sz (fun x => (x.ev T s).un) qs (List.replicate n zs) = some (φ, es)) (hφ : φ)
    {k : Nat} (hd : o.dst = some k) (hk : s.lk k = none) (hkb : k < baseN) :
    ∃ v w' c', (execOp a.eval o).run P w = .ok (.value v) w' ∧ Sat T X Y w0 c' ((St.mk s.tm (obPut k (.row sz es) s.ob)).set (some k) (.row k)) (a.put o.dst v) w' := by
  obtain ⟨it, z, hi, hz1, hz2⟩ := zeroT_spec hz
  have hisz : it.size = sz := by simpa [sizeT, hi] using hsz
  have hzr : RdL (PX X c) w none zs z.cells.toList := mL_read hz2
  have hzlen : z.cells.size = sz := by have := hzr.length; simpa [hzl] using this
  have hz1c : ∀ u ∈ z.cells.toList, u.oneCell' = true := by
    intro u hu
    obtain ⟨j, hj, rfl⟩ := List.getElem_of_mem hu
    have : ∀ {ds : List D} {vs : List Value}, mL ds vs = true → ∀ u ∈ vs, u.oneCell' = true := by
      intro ds
      induction ds with
      | nil => intro vs hm u hu; cases vs <;> simp [mL] at hm hu
      | cons d ds ih =>
        intro vs hm u hu
        cases vs with
        | nil => simp at hu
        | cons v vs =>
          simp only [mL, Bool.and_eq_true] at hm
          rcases List.mem_cons.1 hu with rfl | hu
          · have h1 := hm.1
            cases u <;> first | rfl | (cases d <;> simp [mV] at h1)
          · exact ih hm.2 u hu
    exact this hz2 _ hu
  obtain ⟨vs, e1, e2, e3, e4⟩ := fill_rows h (P := P) (place := fun i => some (i * sz, sz)) (fun _ => rfl) hq hg hf hφ (rows_replicate hzr (by simpa using hzlen) n) (by
    intro u hu
    simp only [List.mem_flatten, List.mem_replicate] at hu
    obtain ⟨l, ⟨_, rfl⟩, hu⟩ := hu
    exact hz1c u hu)
  have hesn : es.length = n := by rw [e4]; simp
  have hnm : n ≤ maxLen := by
    have : n ≤ n * sz := Nat.le_mul_of_pos_right n h0
    simp only [maxLen]; omega
  have hnew := h.newRow hk hkb e2 e3 hesn hnm e
  refine ⟨.slice (some ⟨w.heap.size, 0, none⟩) n n, w.alloc (.cells vs.toArray e), c.with k (some w.heap.size) (.slice (some ⟨w.heap.size, 0, none⟩) n n), ?_, ?_⟩
  · have hr := run_buildSlice (P := P) w U e n (parts.map fun (i, x) => (i, a.eval x)) vs.toArray it z hu hi hz1 (by rw [hisz]; omega) (by rw [hisz]; exact Nat.mul_ne_zero (by omega) (by omega)) (by
      rw [hisz, ← hzlen, range_cells z.cells n (by omega), hzlen]
      rw [← e1]
      simp [Array.toList_map])
    simp only [execOp, ho, Sem.run_bind, hr, Result.andThen_ok, Sem.run_pure]
  · rw [hd]
    exact hnew.put (some k) (d := .row k) (by simp only [Rd]; exact ⟨by simp [Cx.with], by simp [Cx.with]⟩)

theorem mL_one : ∀ {ds : List D} {vs : List Value}, mL ds vs = true → ∀ u ∈ vs, u.oneCell' = true
  | [], vs, hm, u, hu => by cases vs <;> simp [mL] at hm hu
  | d :: ds, [], hm, u, hu => by simp at hu
  | d :: ds, v :: vs, hm, u, hu => by
    simp only [mL, Bool.and_eq_true] at hm
    rcases List.mem_cons.1 hu with rfl | hu
    · have h1 := hm.1
      cases u <;> first | rfl | (cases d <;> simp [mV] at h1)
    · exact mL_one hm.2 u hu

theorem snd_mks (h : Sat T X Y w0 c s a w) {o : Oper} {U e : TypeId} {x y : Operand} {x' y' : Opd} {i : TypeInfo} {zs : List D} (ho : o.op = .makeSlice U x y) (hu : P.underlying U = some (.slice e)) (hi : P.info? e = some i) (hz : zeroT P e = some zs) (hx : cOpd P 0 x = some x') (hy : cOpd P 0 y = some y')
    (hzl : zs.length = i.size) (h0 : 0 < i.size) (hg : (x'.ev T s).gu = true) (hg' : (y'.ev T s).gu = true) {n m : Int} (hk1 : (x'.ev T s).un = .int .i64 n) (hk2 : (y'.ev T s).un = .int .i64 m) (hn : 0 ≤ n) (hnm : n = m) (hmax : n ≤ 4294967296) (hby : n * i.bytes ≤ 140737488355328)
    {k : Nat} (hd : o.dst = some k) (hk : s.lk k = none) (hkb : k < baseN) :
    ∃ v w' c', (execOp a.eval o).run P w = .ok (.value v) w' ∧ Sat T X Y w0 c' ((St.mk s.tm (obPut k (.row i.size (List.replicate n.toNat zs)) s.ob)).set (some k) (.row k)) (a.put o.dst v) w' := by
  subst hnm
  have hrx := h.opdU hx hg
  have hry := h.opdU hy hg'
  rw [hk1] at hrx
  rw [hk2] at hry
  simp only [Rd] at hrx hry
  obtain ⟨it, z, hit, hz1, hz2⟩ := zeroT_spec hz
  obtain rfl : it = i := Option.some.inj (hit.symm.trans hi)
  have hzr : RdL (PX X c) w none zs z.cells.toList := mL_read hz2
  have hzlen : z.cells.size = it.size := by have := hzr.length; simpa [hzl] using this
  have hr := run_make (P := P) w U e it z hu hi hz1 .i64 .i64 n n hn (Int.le_refl _) (by rw [Int.mul_comm]; omega) (by omega)
  have hcells : madeCells z.cells (n.toNat * it.size) = ((List.replicate n.toNat z.cells.toList).flatten).toArray := by
    have := range_cells z.cells n.toNat (by omega)
    unfold madeCells
    rw [← this, hzlen]
  rw [hcells] at hr
  have hnew := h.newRow hk hkb (sz := it.size) (n := n.toNat) (rows_replicate hzr (by simpa using hzlen) n.toNat) (by
    intro u hu
    simp only [List.mem_flatten, List.mem_replicate] at hu
    obtain ⟨l, ⟨_, rfl⟩, hu⟩ := hu
    exact mL_one hz2 u hu) (by simp) (by simp only [maxLen]; omega) e
  refine ⟨.slice (some ⟨w.heap.size, 0, none⟩) n.toNat n.toNat, w.alloc (.cells ((List.replicate n.toNat z.cells.toList).flatten).toArray e), c.with k (some w.heap.size) (.slice (some ⟨w.heap.size, 0, none⟩) n.toNat n.toNat), ?_, ?_⟩
  · simp only [execOp, ho, Sem.run_bind, hrx, hry, hr, Result.andThen_ok, Sem.run_pure]
  · rw [hd]
    exact hnew.put (some k) (d := .row k) (by simp only [Rd]; exact ⟨by simp [Cx.with], by simp [Cx.with]⟩)
end
end Go.Vcg

namespace Go.Vcg
section
variable {P : Program} {T : Tb} {X : Nat → Prop} {Y : Env} {w0 w : World} {c : Cx} {s : St} {a : Act}

/-- An object is turned in its own block. -/
theorem Sat.upd (h : Sat T X Y w0 c s a w) {k : Nat} {p o : Ob} (hk : s.lk k = some p) {w' : World} (hE : Ext (fun b => c.ids k = some b) w w')
    (ho : (∀ (ds : List D) (vs : List Value), RdL (PX X c) w (some c) ds vs → RdL (PX X c) w' (some c) ds vs) → (∀ (sz : Nat) (es : List (List D)) (vs : List Value), RdE (PX X c) w sz es vs → RdE (PX X c) w' sz es vs) → ObOK X w' c k o) :
    Sat T X Y w0 c { s with ob := obPut k o s.ob } a w' := by
  have hl : c.live k = true := by rw [h.live, hk]; rfl
  have hE' : Ext (PX X c) w w' := hE.mono fun b _ hb => .inr ⟨k, hl, hb⟩
  obtain ⟨r1, r2, r3, r4⟩ := h.reads (c' := c) hE' (Cx.le_refl _) (fun _ _ h => h)
  have hlk : ∀ j, St.lk { s with ob := obPut k o s.ob } j = if j = k then some o else s.lk j := fun j => lk_put k o s.ob j
  refine ⟨?_, r3 _ _ h.tm, ?_, h.inj, h.fresh, h.ext.trans' hE (fun b hb hw => ?_), fun i => r2 _ _ (h.gl i), h.Xb, h.rv1, h.dfs, h.base⟩
  · intro j
    rw [hlk]
    by_cases hj : j = k
    · simp [hj, hl]
    · simp [hj, h.live]
  · intro j q hq
    rw [hlk] at hq
    by_cases hj : j = k
    · subst hj
      simp at hq
      subst hq
      exact ho r3 r4
    · simp [hj] at hq
      have hold := h.ob j q hq
      have hlj : c.live j = true := by rw [h.live, hq]; rfl
      have hne : ∀ b, c.ids j = some b → ¬ c.ids k = some b := fun b h1 h2 => hj (h.inj j k b hlj hl h1 h2)
      cases q with
      | box cs =>
        obtain ⟨b', arr, U, e1, e2, e3⟩ := hold
        exact ⟨b', arr, U, e1, by rw [hE.block b' (Array.getElem?_eq_some_iff.1 e2).1 (hne b' e1)]; exact e2, r3 _ _ e3⟩
      | row sz es =>
        obtain ⟨vs, U, e1, e2, e3⟩ := hold
        exact ⟨vs, U, e1.ext hE hne, r4 _ _ _ e2, e3⟩
  · rcases (h.fresh k b hl hb).1 with h1 | h1
    · exact .inl h1
    · exact .inr h1

theorem Ext.setRow {b : Nat} {arr : Array Value} (w : World) : Ext (fun x => x = b) w (w.setRow b arr) :=
  ⟨rfl, rfl, rfl, by simp, fun k _ hk => setRow_other w b k arr hk⟩

theorem run_storeAt {U : TypeId} {n : Nat} (hn : sizeT P U = some n) {b o : Nat} {arr : Array Value} {E : TypeId} (hb : w.heap[b]? = some (.cells arr E (0, 0))) {v : Value} (hv : v.cells.size = n) (hl : o + n ≤ arr.size) (h1 : ∀ u ∈ v.cells.toList, u.oneCell' = true) :
    (Instr.storeAt U (.pointer (some ⟨b, o, none⟩)) v).run P w = .ok () (w.setRow b (arr.toList.take o ++ v.cells.toList ++ arr.toList.drop (o + n)).toArray) := by
  have hne : ¬ v.cells.size ≠ n := by omega
  have := run_storeCells_at (P := P) b o E v.cells.toList 0 arr w hb (by simpa [hv] using hl) h1
  simp only [Instr.storeAt, Instr.sureAddr, Sem.run_bind, Sem.run_pure, Result.andThen_ok, storeVar, run_sizeOf hn, if_neg hne]
  rw [this]
  simp [hv]

theorem snd_store (h : Sat T X Y w0 c s a w) {o : Oper} {U : TypeId} {x v : Operand} {y z : Opd} {n : Nat} (ho : o.op = .store U x v) (hn : sizeT P U = some n) (hx : cOpd P 0 x = some y) (hz : cOpd P U v = some z) (hg : (y.ev T s).gu = true) (hg' : (z.ev T s).gu = true) (hd : o.dst = none)
    {φ : Prop} {k : Nat} {ob : Ob} (hact : act T (.store n y z) (fun x => (x.ev T s).un) s.lk = some (φ, .put k ob)) (hφ : φ) :
    ∃ w', (execOp a.eval o).run P w = .ok .skip w' ∧ Sat T X Y w0 c { s with ob := obPut k ob s.ob } (a.put o.dst undef) w' := by
  have hr := h.opdU hx hg
  have hrv := h.opdU hz hg'
  have hput : a.put o.dst undef = a := by rw [hd]; rfl
  have he : ∀ w', (Instr.storeAt U (a.eval x) (a.eval v)).run P w = .ok () w' → (execOp a.eval o).run P w = .ok .skip w' := fun w' hw => by
    simp only [execOp, ho, Sem.run_bind, hw, Result.andThen_ok, Sem.run_pure]
  simp only [act] at hact
  split at hact
  · rename_i k' off hk
    split at hact
    · rename_i cs hlk
      simp only [Option.some.injEq, Prod.mk.injEq, Eff.put.injEq] at hact
      obtain ⟨rfl, rfl, rfl⟩ := hact
      obtain ⟨hl, hlen, hc⟩ := hφ
      rw [hk] at hr
      simp only [Rd] at hr
      obtain ⟨hlv, b, hb, hv⟩ := hr
      obtain ⟨b', arr, E, e1, e2, e3⟩ := h.ob k' _ hlk
      obtain rfl : b' = b := Option.some.inj (e1.symm.trans hb)
      have hrc := h.cells hrv hc
      have hone := h.ones hrc hc
      have hcl := hrc.length
      have hal := e3.length
      have hvs : (a.eval v).cells.size = n := by simpa [hlen] using hcl
      have hsz : arr.size = cs.length := by simpa using hal
      have hrun := run_storeAt (P := P) (w := w) hn e2 hvs (by omega) hone (o := off)
      refine ⟨_, he _ (by rw [hv]; exact hrun), ?_⟩
      rw [hput]
      refine h.upd hlk ((Ext.setRow w).mono fun q _ hq => by subst hq; exact e1) fun r3 _ => ?_
      refine ⟨b', _, E, e1, setRow_heap w b' arr _ E _ e2, ?_⟩
      have hsp := splice_read e3 hrc off
      rw [hcl, hlen] at hsp
      simpa using r3 _ _ hsp
    · simp at hact
  · rename_i k' sz i off hk
    split at hact
    · rename_i sz' es hlk
      simp only [Option.some.injEq, Prod.mk.injEq, Eff.put.injEq] at hact
      obtain ⟨rfl, rfl, rfl⟩ := hact
      obtain ⟨rfl, hi, hl, hlen, hc⟩ := hφ
      rw [hk] at hr
      simp only [Rd] at hr
      obtain ⟨hlv, b, hb, hv⟩ := hr
      obtain ⟨vs, E, e1, e2, e3⟩ := h.ob k' _ hlk
      rcases e1.2 with ⟨g1, _, g2⟩ | ⟨g, cap, cur, g1, g2, g3, g4, g5, g6, g7⟩
      · rw [hb] at g2; cases g2
      · obtain rfl : b = g := Option.some.inj (hb.symm.trans g2)
        have hc' : (z.ev T s).un.cells.all D.cell' = true := by
          rw [List.all_eq_true] at hc ⊢
          exact fun d hd => cell_cell' (hc d hd)
        have hrc := h.cells hrv hc'
        have hone := h.ones hrc hc'
        have hrn := hrc.open_ hc
        have hcl := hrc.length
        have hvl := e2.length
        have hvs : (a.eval v).cells.size = n := by simpa [hlen] using hcl
        have hin : i * sz' + sz' ≤ es.length * sz' := by rw [← Nat.succ_mul]; exact Nat.mul_le_mul_right sz' hi
        have hcap : es.length * sz' ≤ cur.size := by rw [g6]; exact Nat.mul_le_mul_right sz' g4
        have hrun := run_storeAt (P := P) (w := w) hn g3 hvs (o := i * sz' + off) (by omega) hone
        refine ⟨_, he _ (by rw [hv]; exact hrun), ?_⟩
        rw [hput]
        refine h.upd hlk ((Ext.setRow w).mono fun q _ hq => by subst hq; exact hb) fun _ r4 => ?_
        have hei : es[i]? = some (elem es i) := by simp [elem, hi]
        obtain ⟨q1, q2⟩ := e2.get i _ hei
        have hnew := splice_read q1 hrn.pl off
        have hnl : ((List.take off (List.take sz' (List.drop (i * sz') vs))) ++ (a.eval v).cells.toList ++ List.drop (off + (a.eval v).cells.toList.length) (List.take sz' (List.drop (i * sz') vs))).length = sz' := by
          simp only [List.length_append, List.length_take, List.length_drop, Array.length_toList, hvs]
          omega
        have hset := RdE.set i hnew hnl e2 hi
        have hlist : vs.take (i * sz') ++ ((List.take off (List.take sz' (List.drop (i * sz') vs))) ++ (a.eval v).cells.toList ++ List.drop (off + (a.eval v).cells.toList.length) (List.take sz' (List.drop (i * sz') vs))) ++ vs.drop (i * sz' + sz')
            = vs.take (i * sz' + off) ++ (a.eval v).cells.toList ++ vs.drop (i * sz' + off + n) := by
          simp only [Array.length_toList, hvs, List.append_assoc]
          rw [List.take_take, Nat.min_eq_left (by omega), List.drop_take, List.drop_drop, List.take_add]
          simp only [List.append_assoc]
          congr 3
          have : vs.drop (i * sz' + off + n) = (vs.drop (i * sz' + off + n)).take (sz' - (off + n)) ++ (vs.drop (i * sz' + off + n)).drop (sz' - (off + n)) := (List.take_append_drop _ _).symm
          rw [this, List.drop_drop]
          congr 1
          · rw [Nat.add_assoc]
          · congr 1; omega
        rw [hlist] at hset
        have hvl' : vs.length = es.length * sz' := hvl
        refine ⟨_, E, ⟨?_, .inr ⟨b, cap, _, by rw [g1]; simp, g2, setRow_heap w b cur _ E _ g3, by simpa using g4, g5, ?_, ?_⟩⟩, r4 _ _ _ hset, ?_⟩
        · simp only [List.length_append, List.length_take, List.length_drop, Array.length_toList, hvs, List.length_set]; omega
        · simp only [List.size_toArray, List.length_append, List.length_take, List.length_drop, Array.length_toList, hvs]; omega
        · simp only [List.toList_toArray, List.length_set]
          rw [← g7]
          have hc1 : (cur.toList.take (i * sz' + off)).length = i * sz' + off := by rw [List.length_take, Array.length_toList]; omega
          have hvn : (a.eval v).cells.toList.length = n := by simpa using hvs
          rw [List.append_assoc, List.take_append, List.take_append, hc1, hvn, List.append_assoc]
          congr 1
          · rw [List.take_take, List.take_take]; congr 1; omega
          · congr 1
            · rw [List.take_of_length_le (by omega)]
            · rw [List.drop_take]
              congr 1
              omega
        · intro u hu
          rw [List.mem_append, List.mem_append] at hu
          rcases hu with (hu | hu) | hu
          · exact e3 u (List.mem_of_mem_take hu)
          · exact hone u hu
          · exact e3 u (List.mem_of_mem_drop hu)
    · simp at hact
  · simp at hact
end
end Go.Vcg

namespace Go.Vcg
section
variable {P : Program} {T : Tb} {X : Nat → Prop} {Y : Env} {w0 w : World} {c : Cx} {s : St} {a : Act}

/-- Object k is no more. -/
def Cx.drop (c : Cx) (k : Nat) : Cx := { c with live := fun j => if j = k then false else c.live j }

mutual
theorem Rd.forget {Z : Nat → Prop} (k : Nat) : ∀ (d : D) {v : Value}, Rd Z w (some c) d v → Rd Z w (some (c.drop k)) (d.forget k) v
  | .int _ _, _, h => by simpa only [D.forget, Rd] using h
  | .bool _, _, h => by simpa only [D.forget, Rd] using h
  | .str _, _, h => by simpa only [D.forget, Rd] using h
  | .nilp, _, h => by simpa only [D.forget, Rd] using h
  | .nl _, _, h => by simpa only [D.forget, Rd] using h
  | .fz _ _, _, h => by simpa only [D.forget, Rd] using h
  | .ad _ _ _ _, _, h => by simpa only [D.forget, Rd] using h
  | .any, _, _ => by simp only [D.forget, Rd]
  | .agg cs, _, h => by
    simp only [D.forget, Rd] at h ⊢
    obtain ⟨vs, h1, h2⟩ := h
    exact ⟨vs, h1, RdL.forget k cs h2⟩
  | .tup cs, _, h => by
    simp only [D.forget, Rd] at h ⊢
    obtain ⟨vs, h1, h2⟩ := h
    exact ⟨vs, h1, RdL.forget k cs h2⟩
  | .clo f cs, _, h => by
    simp only [D.forget, Rd] at h ⊢
    obtain ⟨vs, h1, h2⟩ := h
    exact ⟨vs, h1, RdL.forget k cs h2⟩
  | .wh g d, _, h => by
    simp only [D.forget, Rd] at h ⊢
    exact ⟨fun hg => Rd.forget k d (h.1 hg), h.2⟩
  | .own j off, _, h => by
    simp only [D.forget]
    split
    · simp only [Rd]
    · rename_i hj
      simp only [Rd] at h ⊢
      exact ⟨by simp [Cx.drop, hj, h.1], h.2⟩
  | .row j, _, h => by
    simp only [D.forget]
    split
    · simp only [Rd]
    · rename_i hj
      simp only [Rd] at h ⊢
      exact ⟨by simp [Cx.drop, hj, h.1], h.2⟩
  | .elr j sz i off, _, h => by
    simp only [D.forget]
    split
    · simp only [Rd]
    · rename_i hj
      simp only [Rd] at h ⊢
      exact ⟨by simp [Cx.drop, hj, h.1], h.2⟩
theorem RdL.forget {Z : Nat → Prop} (k : Nat) : ∀ (ds : List D) {vs : List Value}, RdL Z w (some c) ds vs → RdL Z w (some (c.drop k)) (forgetL k ds) vs
  | [], _, h => by simpa only [forgetL, RdL] using h
  | d :: ds, _, h => by
    simp only [forgetL, RdL] at h ⊢
    obtain ⟨v, r, h1, h2, h3⟩ := h
    exact ⟨v, r, h1, Rd.forget k d h2, RdL.forget k ds h3⟩
end

/-- A row goes over into another one: in its own block, or in a new one. -/
theorem Sat.move (h : Sat T X Y w0 c s a w) {k j : Nat} {p : Ob} (hk : s.lk k = some p) (hj : s.lk j = none ∨ j = k) (hjb : j < baseN) {w' : World} (hE : Ext (fun b => c.ids k = some b) w w') {v : Value} {vb : Option Nat}
    (hb : vb = c.ids k ∨ vb = none ∨ vb = some w.heap.size ∧ w.heap.size < w'.heap.size) (hv : v.cells = #[v] ∧ v.oneCell' = true) {o : Ob}
    (ho : (∀ (sz : Nat) (es : List (List D)) (vs : List Value), RdE (PX X c) w sz es vs → RdE (PX X ((c.drop k).with j vb v)) w' sz es vs) → ObOK X w' ((c.drop k).with j vb v) j o) :
    Sat T X Y w0 ((c.drop k).with j vb v) { tm := forgetL k s.tm, ob := obPut j o (forgetO k (obDel k s.ob)) } a w' := by
  have hl : c.live k = true := by rw [h.live, hk]; rfl
  have hjl : ∀ i, (c.drop k).live i = true → i ≠ j := by
    intro i hi e
    subst e
    simp only [Cx.drop] at hi
    split at hi
    · cases hi
    · rename_i hne
      rcases hj with hj | hj
      · rw [h.live, hj] at hi; cases hi
      · exact hne hj
  have hdl : ∀ i, (c.drop k).live i = true → i ≠ k ∧ c.live i = true := by
    intro i hi
    simp only [Cx.drop] at hi
    split at hi
    · cases hi
    · exact ⟨‹_›, hi⟩
  have hle : Cx.le (some (c.drop k)) (some ((c.drop k).with j vb v)) := by
    intro i hi
    have := hjl i hi
    simp [Cx.with, this, hi]
  have hPX : ∀ x, x < w.heap.size → PX X ((c.drop k).with j vb v) x → PX X c x := by
    intro x hx hp
    rcases hp with hp | ⟨i, hi, hix⟩
    · exact .inl hp
    · by_cases hij : i = j
      · subst hij
        simp [Cx.with] at hix
        rcases hb with hb | hb | ⟨hb, _⟩
        · exact .inr ⟨k, hl, hb ▸ hix⟩
        · rw [hb] at hix; cases hix
        · rw [hb] at hix; simp at hix; omega
      · simp only [Cx.with, if_neg hij] at hi hix
        exact .inr ⟨i, (hdl i hi).2, by simpa [Cx.drop] using hix⟩
  have hEp : Ext (PX X c) w w' := hE.mono fun b _ hb => .inr ⟨k, hl, hb⟩
  have r3 : ∀ (ds : List D) (vs : List Value), RdL (PX X c) w (some c) ds vs → RdL (PX X ((c.drop k).with j vb v)) w' (some ((c.drop k).with j vb v)) (forgetL k ds) vs :=
    fun ds vs hd => RdL.mono hEp (fun _ _ h => h) hPX _ hle (RdL.forget k ds hd)
  have r2 : ∀ (d : D) (u : Value), Rd (PX X c) w none d u → Rd (PX X ((c.drop k).with j vb v)) w' none d u :=
    fun d u hd => Rd.mono hEp (fun _ _ h => h) hPX d (c := none) (c' := none) trivial hd
  have r4 : ∀ (sz : Nat) (es : List (List D)) (vs : List Value), RdE (PX X c) w sz es vs → RdE (PX X ((c.drop k).with j vb v)) w' sz es vs :=
    fun sz es vs hd => RdE.mono hEp (fun _ _ h => h) hPX es hd
  have hlk : ∀ i, St.lk { tm := forgetL k s.tm, ob := obPut j o (forgetO k (obDel k s.ob)) } i = if i = j then some o else if i = k then none else (s.lk i).map (Ob.forget k) := by
    intro i
    unfold St.lk
    simp only
    rw [lk_put, lk_forget, lk_del]
    split
    · rfl
    · split <;> rfl
  refine ⟨?_, r3 _ _ h.tm, ?_, ?_, ?_, h.ext.trans' hE (fun b hb' hw => ?_), fun i => r2 _ _ (h.gl i), h.Xb, ?_, h.dfs, ?_⟩
  · intro i
    rw [hlk]
    by_cases hij : i = j
    · simp [Cx.with, hij]
    · simp only [Cx.with, if_neg hij, Cx.drop]
      split
      · simp
      · rw [h.live]; cases s.lk i <;> rfl
  · intro i q hq
    rw [hlk] at hq
    by_cases hij : i = j
    · subst hij
      simp at hq
      subst hq
      exact ho r4
    · rw [if_neg hij] at hq
      split at hq
      · cases hq
      · rename_i hik
        cases hold : s.lk i with
        | none => rw [hold] at hq; cases hq
        | some q0 =>
          rw [hold] at hq
          simp at hq
          subst hq
          have hob := h.ob i q0 hold
          have hlj : c.live i = true := by rw [h.live, hold]; rfl
          have hne : ∀ b, c.ids i = some b → ¬ c.ids k = some b := fun b h1 h2 => hik (h.inj i k b hlj hl h1 h2)
          cases q0 with
          | box cs =>
            obtain ⟨b', arr, U, e1, e2, e3⟩ := hob
            exact ⟨b', arr, U, by simp [Cx.with, hij, Cx.drop, e1], by rw [hE.block b' (Array.getElem?_eq_some_iff.1 e2).1 (hne b' e1)]; exact e2, r3 _ _ e3⟩
          | row sz es =>
            obtain ⟨vs, U, e1, e2, e3⟩ := hob
            exact ⟨vs, U, by simpa [Cx.with, hij, Cx.drop] using e1.ext hE hne, r4 _ _ _ e2, e3⟩
  · intro i i' x hi hi' hix hix'
    by_cases hij : i = j <;> by_cases hij' : i' = j
    · rw [hij, hij']
    · subst hij
      simp [Cx.with] at hix
      simp only [Cx.with, if_neg hij'] at hi' hix'
      obtain ⟨n1, n2⟩ := hdl i' hi'
      have hx' : c.ids i' = some x := hix'
      rcases hb with hb | hb | ⟨hb, _⟩
      · exact absurd (h.inj i' k x n2 hl hx' (hb ▸ hix)) n1
      · rw [hb] at hix; cases hix
      · rw [hb] at hix; simp at hix
        have := h.id_lt n2 hx'; omega
    · subst hij'
      simp [Cx.with] at hix'
      simp only [Cx.with, if_neg hij] at hi hix
      obtain ⟨n1, n2⟩ := hdl i hi
      have hx' : c.ids i = some x := hix
      rcases hb with hb | hb | ⟨hb, _⟩
      · exact absurd (h.inj i k x n2 hl hx' (hb ▸ hix')) n1
      · rw [hb] at hix'; cases hix'
      · rw [hb] at hix'; simp at hix'
        have := h.id_lt n2 hx'; omega
    · simp only [Cx.with, if_neg hij, if_neg hij'] at hi hi' hix hix'
      exact h.inj i i' x (hdl i hi).2 (hdl i' hi').2 hix hix'
  · intro i x hi hix
    by_cases hij : i = j
    · subst hij
      simp [Cx.with] at hix
      rcases hb with hb | hb | ⟨hb, _⟩
      · exact h.fresh k x hl (hb ▸ hix)
      · rw [hb] at hix; cases hix
      · rw [hb] at hix; simp at hix
        have hs := h.ext.size
        exact ⟨.inl (by omega), h.Xb x (by omega)⟩
    · simp only [Cx.with, if_neg hij] at hi hix
      exact h.fresh i x (hdl i hi).2 hix
  · rcases (h.fresh k b hl hb').1 with h1 | h1
    · exact .inl h1
    · exact .inr h1
  · intro i hi
    by_cases hij : i = j
    · subst hij; simpa [Cx.with] using hv
    · simp only [Cx.with, if_neg hij] at hi ⊢
      exact h.rv1 i (hdl i hi).2
  · intro i hi hli
    have hij : i ≠ j := by omega
    simp only [Cx.with, if_neg hij] at hli ⊢
    exact h.base i hi (hdl i hli).2
end
end Go.Vcg

namespace Go.Vcg
section
variable {P : Program} {T : Tb} {X : Nat → Prop} {Y : Env} {w0 w : World} {c : Cx} {s : St} {a : Act}

theorem Sat.news (h : Sat T X Y w0 c s a w) {sz : Nat} {d : D} {v : Value} (hr : Rd (PX X c) w (some c) d v) {ns : List (List D)} (hn : newsOf sz s.lk d = some ns) :
    ((∃ o, v = .slice o 0 0) ∧ ns = []) ∨ ∃ b off cap vs, v = .slice (some ⟨b, off, none⟩) ns.length cap ∧ CellsAt w b off vs ∧ RdE (PX X c) w sz ns vs ∧ (∀ u ∈ vs, u.oneCell' = true) := by
  unfold newsOf at hn
  split at hn
  · rename_i sz' es
    split at hn
    · rename_i hsz
      subst hsz
      obtain rfl := Option.some.inj hn
      simp only [Rd] at hr
      rcases hr with hr | ⟨b, off, cap, vs, h1, _, _, _, h2, h3, h4⟩
      · exact .inl hr
      · exact .inr ⟨b, off, cap, vs, h1, h2, h3, h4⟩
    · cases hn
  · obtain rfl := Option.some.inj hn
    simp only [Rd] at hr
    exact .inl ⟨⟨none, hr⟩, rfl⟩
  · rename_i k
    split at hn
    · rename_i sz' es hlk
      split at hn
      · rename_i hsz
        subst hsz
        obtain rfl := Option.some.inj hn
        simp only [Rd] at hr
        obtain ⟨_, rfl⟩ := hr
        obtain ⟨vs, U, e1, e2, e3⟩ := h.ob k _ hlk
        rcases e1.2 with ⟨g1, g2, _⟩ | ⟨g, cap, cur, g1, g2, g3, g4, g5, g6, g7⟩
        · exact .inl ⟨g1, List.eq_nil_of_length_eq_zero g2⟩
        · refine .inr ⟨g, 0, cap, vs, g1, ⟨cur, U, (0, 0), g3, fun j v hv => ?_⟩, e2, e3⟩
          rw [← g7, List.getElem?_take] at hv
          split at hv
          · simpa using hv
          · simp at hv
      · cases hn
    · cases hn
  · cases hn

theorem run_append_of {o : Oper} {U : TypeId} {x y : Operand} (ho : o.op = .call { callee := .builtin .append, args := #[x, y], argTypes := #[U, U] }) {v : Value} {w' : World} (hv : (Builtin.append_ #[U, U] o.type #[a.eval x, a.eval y]).run P w = .ok v w') : (execOp a.eval o).run P w = .ok (.value v) w' := by
  unfold execOp
  simp only [ho, resolve, invoke, builtin, Sem.run_bind, Sem.run_pure, Result.andThen_ok, List.map_toArray, List.map_cons, List.map_nil, hv]

/-- Into the room that is there, whatever the block was made for. -/
theorem append_room {U ty e V : TypeId} {i : TypeInfo} (hu : P.underlying U = some (.slice e)) (hi : P.info? e = some i) {g n cap : Nat} {cur : Array Value} (hg : w.heap[g]? = some (.cells cur V (0, 0)))
    {ad : Addr} {m c' : Nat} {news : List Value} (hl : news.length = m * i.size) (hnews : ∀ (j : Nat) u, news[j]? = some u → w.cell? (ad.add j) = some u) (h1 : ∀ u ∈ news, u.oneCell' = true) (hroom : n + m ≤ cap) (hfit : n * i.size + news.length ≤ cur.size) :
    (Builtin.append_ #[U, U] ty #[.slice (some ⟨g, 0, none⟩) n cap, .slice (some ad) m c']).run P w = .ok (.slice (some ⟨g, 0, none⟩) (n + m) cap) (w.setRow g (cur.toList.take (n * i.size) ++ news ++ cur.toList.drop (n * i.size + news.length)).toArray) := by
  have hf := run_firstCells_some (P := P) w i.size m ad m c' news hl hnews
  have hst := run_storeCells_at (P := P) g (n * i.size) V news 0 cur w hg (by simpa using hfit) h1
  simp only [Nat.add_zero] at hst
  simp [Builtin.append_, run_underlying hu, sizeOf, typeInfo, hi, Builtin.lenOf, hroom, hf, Addr.add_lit, hst]

/-- Append to a row of one's own. -/
theorem append_own {U ty e V : TypeId} {i : TypeInfo} {z : Value} (hu : P.underlying U = some (.slice e)) (hi : P.info? e = some i) (hz : i.zero = some z) (hzs : z.cells.size = i.size)
    {v : Value} {n : Nat} {xs : List Value} {vb : Option Nat} (hown : OwnsR w V i.size vb v n xs) {ad : Addr} {m c' : Nat} {news : List Value} (hl : news.length = m * i.size) (hnews : ∀ (j : Nat) u, news[j]? = some u → w.cell? (ad.add j) = some u) (h1 : ∀ u ∈ news, u.oneCell' = true)
    (hm : n + m ≤ maxLen) (hb : (n + m) * i.bytes ≤ 140737488355328) :
    ∃ v' w' V' vb', (Builtin.append_ #[U, U] ty #[v, .slice (some ad) m c']).run P w = .ok v' w' ∧ OwnsR w' V' i.size vb' v' (n + m) (xs ++ news) ∧ w.grownBy w' vb ∧ (vb' = vb ∨ vb' = none ∨ vb' = some w.heap.size) := by
  have hsmall : n + m ≤ 9223372036854775807 := by simp only [maxLen] at hm; omega
  have hlen : (xs ++ news).length = (n + m) * i.size := by rw [List.length_append, hown.1, hl, Nat.add_mul]
  have grown : ∀ (old : Nat), OwnsR (w.drew.alloc (.cells (xs.toArray ++ news.toArray ++ Builtin.zeroCells z.cells (grownCap w (n + m) old e - (n + m))) e)) e i.size (some w.heap.size)
        (.slice (some ⟨w.heap.size, 0, none⟩) (n + m) (grownCap w (n + m) old e)) (n + m) (xs ++ news) := by
    intro old
    have hge := grownCap_ge w (n + m) old e
    refine ⟨hlen, .inr ⟨w.heap.size, _, _, rfl, rfl, heap_alloc_new w.drew _, hge, grownCap_le_maxLen w (n + m) old e hm, ?_, ?_⟩⟩
    · simp only [Array.size_append, List.size_toArray, size_zeroCells, hzs, hown.1, hl, ← Nat.add_mul]
      congr 1; omega
    · simp only [Array.toList_append, List.append_assoc]
      rw [← List.append_assoc, ← hlen]
      exact List.take_left
  have gb : ∀ (o : Obj) (row : Option Nat), w.grownBy (w.drew.alloc o) row := fun o row => ⟨rfl, rfl, rfl, by simp, fun k hk _ => RowKit.Below.heap_alloc w.drew o k hk⟩
  rcases hown.2 with ⟨⟨o0, rfl⟩, rfl, rfl⟩ | ⟨g, cap, cur, rfl, hbg, hg, hnc, hcm, hcs, htake⟩
  · have hx : xs = [] := List.eq_nil_of_length_eq_zero (by simpa using hown.1)
    subst hx
    by_cases h0 : m = 0
    · subst h0
      have hn : news = [] := List.eq_nil_of_length_eq_zero (by simpa using hl)
      subst hn
      cases o0 with
      | none =>
        refine ⟨.slice none 0 0, w, V, none, ?_, OwnsR.nil w V i.size none, ⟨rfl, rfl, rfl, Nat.le_refl _, fun _ _ _ => rfl⟩, .inl rfl⟩
        simp [Builtin.append_, run_underlying hu, sizeOf, typeInfo, hi, Builtin.lenOf, Builtin.firstCells, loadCells, loadCellsFrom]
      | some a0 =>
        refine ⟨.slice (some a0) 0 0, w, V, none, ?_, OwnsR.nil w V i.size (some a0), ⟨rfl, rfl, rfl, Nat.le_refl _, fun _ _ _ => rfl⟩, .inl rfl⟩
        simp [Builtin.append_, run_underlying hu, sizeOf, typeInfo, hi, Builtin.lenOf, Builtin.firstCells, loadCells, loadCellsFrom, storeCells]
    · cases o0 with
      | none =>
        have hr := run_append_nil (P := P) w U ty e i z hu hi hz ad m c' news hl hnews (by omega) (by omega) (by have := hb; simp only [Nat.zero_add] at this; omega)
        have hgr := grown 0
        simp only [Nat.zero_add, List.nil_append, Array.empty_append] at hgr ⊢
        exact ⟨_, _, e, _, hr, hgr, gb _ _, .inr (.inr rfl)⟩
      | some a0 =>
        have hr := run_append_grow (P := P) w U ty e i z hu hi hz a0 0 0 [] (by simp) (by simp) ad m c' news hl hnews (by omega) (by omega) (growslice_fits (by omega) hb)
        have hgr := grown 0
        exact ⟨_, _, e, _, hr, hgr, gb _ _, .inr (.inr rfl)⟩
  · by_cases hroom : n + m ≤ cap
    · have hfit : n * i.size + news.length ≤ cur.size := by rw [hl, hcs, ← Nat.add_mul]; exact Nat.mul_le_mul_right _ hroom
      have hr := append_room (P := P) (ty := ty) hu hi hg hl hnews h1 hroom hfit (c' := c')
      refine ⟨_, _, V, vb, hr, ⟨hlen, .inr ⟨g, cap, _, rfl, hbg, setRow_heap w g cur _ V _ hg, hroom, hcm, ?_, ?_⟩⟩, ⟨rfl, rfl, rfl, by simp, fun k _ hk => setRow_other w g k _ (fun e => hk (by rw [hbg, e]))⟩, .inl rfl⟩
      · simp only [List.size_toArray, List.length_append, List.length_take, List.length_drop, Array.length_toList]; omega
      · rw [htake, ← hlen]; exact List.take_left
    · have holds : ∀ (j : Nat) u, xs[j]? = some u → w.cell? ((⟨g, 0, none⟩ : Addr).add j) = some u := World.ownsRow.cells (w := w) (base := 0) (e := V) (size := i.size) (n := n) ⟨hown.1, .inr ⟨g, cap, cur, rfl, Nat.zero_le _, hg, hnc, hcm, hcs, htake⟩⟩ (g := g) rfl
      have hr := run_append_grow (P := P) w U ty e i z hu hi hz ⟨g, 0, none⟩ n cap xs hown.1 holds ad m c' news hl hnews (by omega) (by omega) (growslice_fits (by omega) hb)
      exact ⟨_, _, e, _, hr, grown cap, gb _ _, .inr (.inr rfl)⟩

theorem snd_append (h : Sat T X Y w0 c s a w) {o : Oper} {U e : TypeId} {x y : Operand} {x' y' : Opd} {i : TypeInfo} {zs : List D} (ho : o.op = .call { callee := .builtin .append, args := #[x, y], argTypes := #[U, U] })
    (hu : P.underlying U = some (.slice e)) (hi : P.info? e = some i) (hz : zeroT P e = some zs) (hx : cOpd P U x = some x') (hy : cOpd P U y = some y') (hzl : zs.length = i.size) (h0 : 0 < i.size) (hg : (x'.ev T s).gu = true) (hg' : (y'.ev T s).gu = true)
    {j : Nat} (hd : o.dst = some j) {ns : List (List D)} (hn : newsOf i.size s.lk (y'.ev T s).un = some ns) :
    (∀ k sz es, (x'.ev T s).un = .row k → s.lk k = some (.row sz es) → sz = i.size → (y'.ev T s).un ≠ .row k → (es.length + ns.length) * i.bytes ≤ 140737488355328 → es.length + ns.length ≤ 9223372036854775807 → (s.lk j = none ∨ j = k) → j < baseN →
      ∃ v w' c', (execOp a.eval o).run P w = .ok (.value v) w' ∧ Sat T X Y w0 c' ((St.mk (forgetL k s.tm) (obPut j (.row i.size (es ++ ns)) (forgetO k (obDel k s.ob)))).set (some j) (.row j)) (a.put o.dst v) w') ∧
    (∀ z, (x'.ev T s).un = .nl z → ns.length * i.bytes ≤ 140737488355328 → ns.length ≤ 9223372036854775807 → s.lk j = none → j < baseN →
      ∃ v w' c', (execOp a.eval o).run P w = .ok (.value v) w' ∧ Sat T X Y w0 c' ((St.mk s.tm (obPut j (.row i.size ns) s.ob)).set (some j) (.row j)) (a.put o.dst v) w') := by
  have hrx := h.opdU hx hg
  have hry := h.opdU hy hg'
  obtain ⟨it, z, hit, hz1, hz2⟩ := zeroT_spec hz
  obtain rfl : it = i := Option.some.inj (hit.symm.trans hi)
  have hzlen : z.cells.size = it.size := by
    have := (mL_read (w := w) (Z := X) (cx := none) hz2).length
    simpa [hzl] using this
  have news := h.news hry hn
  -- the run, of a value that owns its row
  have run : ∀ (v : Value) (n : Nat) (xs : List Value) (V : TypeId) (vb : Option Nat), OwnsR w V it.size vb v n xs → a.eval x = v → (n + ns.length) * it.bytes ≤ 140737488355328 → n + ns.length ≤ 9223372036854775807 →
      ∃ v' w' vs V' vb', (execOp a.eval o).run P w = .ok (.value v') w' ∧ OwnsR w' V' it.size vb' v' (n + ns.length) (xs ++ vs) ∧ RdE (PX X c) w it.size ns vs ∧ (∀ u ∈ vs, u.oneCell' = true) ∧ w.grownBy w' vb ∧ (vb' = vb ∨ vb' = none ∨ vb' = some w.heap.size) := by
    intro v n xs V vb hown hv hb hm
    rcases news with ⟨⟨o0, hy0⟩, rfl⟩ | ⟨b, off, cap, vs, hyv, hc, hE, h1⟩
    · cases o0 with
      | some ad =>
        obtain ⟨v', w', V', vb', g1, g2, g3, g5⟩ := append_own (P := P) (ty := o.type) hu hi hz1 hzlen hown (ad := ad) (m := 0) (news := []) (by simp) (by simp) (by simp) (by simpa [maxLen] using hm) (by simpa using hb) (c' := 0)
        exact ⟨v', w', [], V', vb', run_append_of ho (by rw [hv, hy0]; exact g1), by simpa using g2, by simp [RdE], by simp, g3, g5⟩
      | none =>
      refine ⟨v, w, [], V, vb, run_append_of ho ?_, by simpa using hown, by simp [RdE], by simp, ⟨rfl, rfl, rfl, Nat.le_refl _, fun _ _ _ => rfl⟩, .inl rfl⟩
      rw [hv, hy0]
      rcases hown.2 with ⟨⟨o1, rfl⟩, rfl, _⟩ | ⟨g, cap, cur, rfl, _, _, hnc, _⟩
      · cases o1 <;> simp [storeCells, Builtin.append_, run_underlying hu, sizeOf, typeInfo, hi, Builtin.lenOf, Builtin.firstCells]
      · simp [Builtin.append_, run_underlying hu, sizeOf, typeInfo, hi, Builtin.lenOf, Builtin.firstCells, hnc, storeCells]
    · obtain ⟨v', w', V', vb', g1, g2, g3, g5⟩ := append_own (P := P) (ty := o.type) hu hi hz1 hzlen hown hE.length (fun j u hu => by rw [addr_add]; exact hc.cell hu) h1 (by simpa [maxLen] using hm) hb (c' := cap)
      exact ⟨v', w', vs, V', vb', run_append_of ho (by rw [hv, hyv]; exact g1), g2, hE, h1, g3, g5⟩
  constructor
  · intro k sz es hk hlk hsz hne hb hm hj hjb
    subst hsz
    rw [hk] at hrx
    simp only [Rd] at hrx
    obtain ⟨vs0, V, e1, e2, e3⟩ := h.ob k _ hlk
    obtain ⟨v', w', vs, V', vb', hr, hown, hE, h1, hgr, hbl⟩ := run (c.rv k) es.length vs0 V _ e1 hrx.2 hb hm
    have hmv := h.move (v := v') (vb := vb') (j := j) (o := .row it.size (es ++ ns)) hlk hj hjb (w' := w') (⟨hgr.os, hgr.tape, hgr.output, hgr.size, fun b hb hn => hgr.block b hb (fun he => hn he.symm)⟩)
      (by rcases hbl with hb | hb | hb
          · exact .inl hb
          · exact .inr (.inl hb)
          · exact .inr (.inr ⟨hb, hown.lt hb⟩)) hown.one (fun r4 => by
        refine ⟨vs0 ++ vs, V', by simpa [Cx.with] using hown, r4 _ _ _ (e2.append hE), fun u hu => ?_⟩
        rcases List.mem_append.1 hu with hu | hu
        · exact e3 u hu
        · exact h1 u hu)
    refine ⟨v', w', (c.drop k).with j vb' v', hr, ?_⟩
    rw [hd]
    exact hmv.put (some j) (d := .row j) (v := v') (by simp only [Rd]; exact ⟨by simp [Cx.with], by simp [Cx.with]⟩)
  · intro z0 hk hb hm hj hjb
    rw [hk] at hrx
    simp only [Rd] at hrx
    obtain ⟨v', w', vs, V', vb', hr, hown, hE, h1, hgr, hbl⟩ := run (.slice none 0 0) 0 [] e none (OwnsR.nil w e it.size none) hrx (by simpa using hb) (by simpa using hm)
    have hnew := h.new (k := j) (o := .row it.size ns) hj hjb (w' := w') (⟨hgr.os, hgr.tape, hgr.output, hgr.size, fun b hb _ => hgr.block b hb (by simp)⟩) (b := vb')
      (fun q hq => by
        rcases hbl with hb | hb | hb
        · rw [hb] at hq; cases hq
        · rw [hb] at hq; cases hq
        · have := hown.lt hq
          rw [hb] at hq
          obtain rfl := Option.some.inj hq
          exact ⟨Nat.le_refl _, this⟩) (v := v') hown.one (fun _ r4 => by
        refine ⟨vs, V', ?_, r4 _ _ _ hE, h1⟩
        simpa [Cx.with] using hown)
    refine ⟨v', w', c.with j vb' v', hr, ?_⟩
    rw [hd]
    exact hnew.put (some j) (d := .row j) (v := v') (by simp only [Rd]; exact ⟨by simp [Cx.with], by simp [Cx.with]⟩)
end
end Go.Vcg

namespace Go.Vcg
section
variable {P : Program} {T : Tb} {X : Nat → Prop} {Y : Env} {w0 w : World} {c : Cx} {s : St} {a : Act}

/-! ### Rows that stay as they are -/
theorem Sat.row_open (h : Sat T X Y w0 c s a w) {Z : Nat → Prop} (hZ : ∀ b, b < w.heap.size → Z b → PX X c b) {k : Nat} (hk' : ∀ b, c.ids k = some b → ¬ Z b) {sz : Nat} {es : List (List D)} (hk : s.lk k = some (.row sz es)) : Rd Z w none (.fz sz es) (c.rv k) := by
  obtain ⟨vs, U, e1, e2, e3⟩ := h.ob k _ hk
  simp only [Rd]
  rcases e1.2 with ⟨g1, g2, _⟩ | ⟨g, cap, cur, g1, g2, g3, g4, g5, g6, g7⟩
  · exact .inl ⟨g1, List.eq_nil_of_length_eq_zero g2⟩
  · refine .inr ⟨g, 0, cap, vs, g1, g4, g5, hk' g g2, ⟨cur, U, (0, 0), g3, fun j v hv => ?_⟩, RdE.mono (Ext.refl (fun _ => False) w) (fun _ _ h => h.elim) hZ _ e2, e3⟩
    rw [← g7, List.getElem?_take] at hv
    split at hv
    · simpa using hv
    · simp at hv

def Cx.drops (c : Cx) (ks : List Nat) : Cx := { c with live := fun j => c.live j && !ks.contains j }

theorem Sat.drops_px (c : Cx) (ks : List Nat) : ∀ b, PX X (c.drops ks) b → PX X c b := by
  intro b hp
  rcases hp with hp | ⟨k, hk, hb⟩
  · exact .inl hp
  · simp only [Cx.drops, Bool.and_eq_true] at hk
    exact .inr ⟨k, hk.1, hb⟩

mutual
theorem Sat.frzD (h : Sat T X Y w0 c s a w) (ks : List Nat) : ∀ (d : D) {v : Value}, Rd (PX X c) w (some c) d v → Rd (PX X (c.drops ks)) w (some (c.drops ks)) (d.frz s.lk ks) v
  | .int _ _, _, hr => by simpa only [D.frz, Rd] using hr
  | .bool _, _, hr => by simpa only [D.frz, Rd] using hr
  | .str _, _, hr => by simpa only [D.frz, Rd] using hr
  | .nilp, _, hr => by simpa only [D.frz, Rd] using hr
  | .nl _, _, hr => by simpa only [D.frz, Rd] using hr
  | .any, _, _ => by simp only [D.frz, Rd]
  | .fz sz es, v, hr => by
    simp only [D.frz]
    have := Rd.mono (Ext.refl (fun _ => False) w) (fun _ _ h => h.elim) (fun b _ hp => Sat.drops_px c ks b hp) (.fz sz es) (c := some c) (c' := some c) (Cx.le_refl _) hr
    simpa only [Rd] using this
  | .ad sz es i o, v, hr => by
    simp only [D.frz]
    have := Rd.mono (Ext.refl (fun _ => False) w) (fun _ _ h => h.elim) (fun b _ hp => Sat.drops_px c ks b hp) (.ad sz es i o) (c := some c) (c' := some c) (Cx.le_refl _) hr
    simpa only [Rd] using this
  | .agg cs, v, hr => by
    simp only [D.frz, Rd] at hr ⊢
    obtain ⟨vs, h1, h2⟩ := hr
    exact ⟨vs, h1, Sat.frzDs h ks cs h2⟩
  | .tup cs, v, hr => by
    simp only [D.frz, Rd] at hr ⊢
    obtain ⟨vs, h1, h2⟩ := hr
    exact ⟨vs, h1, Sat.frzDs h ks cs h2⟩
  | .clo f cs, v, hr => by
    simp only [D.frz, Rd] at hr ⊢
    obtain ⟨vs, h1, h2⟩ := hr
    exact ⟨vs, h1, Sat.frzDs h ks cs h2⟩
  | .wh g d, v, hr => by
    simp only [D.frz, Rd] at hr ⊢
    exact ⟨fun hg => Sat.frzD h ks d (hr.1 hg), hr.2⟩
  | .own k o, v, hr => by
    simp only [D.frz]
    split
    · simp only [Rd]
    · rename_i hk
      simp only [Rd] at hr ⊢
      exact ⟨by simp only [Cx.drops, hr.1, Bool.true_and, Bool.not_eq_true']; simpa using hk, hr.2⟩
  | .elr k sz i o, v, hr => by
    simp only [D.frz]
    split
    · simp only [Rd]
    · rename_i hk
      simp only [Rd] at hr ⊢
      exact ⟨by simp only [Cx.drops, hr.1, Bool.true_and, Bool.not_eq_true']; simpa using hk, hr.2⟩
  | .row k, v, hr => by
    simp only [D.frz]
    simp only [Rd] at hr
    split
    · rename_i hk
      split
      · rename_i sz es hlk
        rw [hr.2]
        have := h.row_open (Z := PX X (c.drops ks)) (fun b _ hp => Sat.drops_px c ks b hp) (k := k) (fun b hb hp => by
          rcases hp with hp | ⟨j, hj, hjb⟩
          · exact (h.fresh k b hr.1 hb).2 hp
          · simp only [Cx.drops, Bool.and_eq_true, Bool.not_eq_true'] at hj
            have := h.inj j k b hj.1 hr.1 hjb hb
            subst this
            rw [hk] at hj; exact absurd hj.2 (by simp)) hlk
        simpa only [Rd] using this
      · simp only [Rd]
    · rename_i hk
      simp only [Rd]
      exact ⟨by simp only [Cx.drops, hr.1, Bool.true_and, Bool.not_eq_true']; simpa using hk, hr.2⟩
theorem Sat.frzDs (h : Sat T X Y w0 c s a w) (ks : List Nat) : ∀ (ds : List D) {vs : List Value}, RdL (PX X c) w (some c) ds vs → RdL (PX X (c.drops ks)) w (some (c.drops ks)) (frzL s.lk ks ds) vs
  | [], _, hr => by simpa only [frzL, RdL] using hr
  | d :: ds, _, hr => by
    simp only [frzL, RdL] at hr ⊢
    obtain ⟨v, r, h1, h2, h3⟩ := hr
    exact ⟨v, r, h1, Sat.frzD h ks d h2, Sat.frzDs h ks ds h3⟩
end

theorem lk_frzO (lk : Nat → Option Ob) (ks : List Nat) : ∀ (l : List (Nat × Ob)) (j : Nat), (frzO lk ks l).lookup j = if ks.contains j = true then none else (l.lookup j).map (Ob.frz lk ks)
  | [], j => by simp [frzO, List.lookup]
  | (i, p) :: r, j => by
    simp only [frzO]
    by_cases hj : j = i
    · subst hj
      by_cases hi : ks.contains j = true
      · rw [if_pos hi, lk_frzO lk ks r j, if_pos hi, if_pos hi]
      · rw [if_neg hi, if_neg hi]; simp [List.lookup]
    · have h1 : (j == i) = false := by simpa using hj
      by_cases hi : ks.contains i = true
      · rw [if_pos hi, lk_frzO lk ks r j]; simp only [List.lookup, h1]
      · rw [if_neg hi]; simp only [List.lookup, h1]; exact lk_frzO lk ks r j

theorem Sat.frz (h : Sat T X Y w0 c s a w) (ks : List Nat) : Sat T X Y w0 (c.drops ks) (s.frz ks) a w := by
  have hlk : ∀ j, (s.frz ks).lk j = if ks.contains j = true then none else (s.lk j).map (Ob.frz s.lk ks) := fun j => lk_frzO s.lk ks s.ob j
  have hlv : ∀ j, (c.drops ks).live j = true → c.live j = true := by
    intro j hj
    simp only [Cx.drops, Bool.and_eq_true] at hj
    exact hj.1
  refine ⟨fun j => ?_, Sat.frzDs h ks _ h.tm, fun j o hj => ?_, fun i j b hi hj => h.inj i j b (hlv i hi) (hlv j hj), fun j b hj => h.fresh j b (hlv j hj), h.ext, fun i => ?_, h.Xb, fun j hj => h.rv1 j (hlv j hj), h.dfs, fun j hj hl => h.base j hj (hlv j hl)⟩
  · rw [hlk]
    simp only [Cx.drops, h.live]
    by_cases hk : ks.contains j = true
    · rw [if_pos hk, hk]; simp
    · rw [if_neg hk]
      have : ks.contains j = false := by simpa using hk
      rw [this]
      cases s.lk j <;> rfl
  · rw [hlk] at hj
    split at hj
    · cases hj
    · cases hq : s.lk j with
      | none => rw [hq] at hj; cases hj
      | some q =>
        rw [hq] at hj
        simp at hj
        subst hj
        have := h.ob j q hq
        cases q with
        | box cs =>
          obtain ⟨b, arr, U, e1, e2, e3⟩ := this
          exact ⟨b, arr, U, e1, e2, Sat.frzDs h ks _ e3⟩
        | row sz es =>
          obtain ⟨vs, U, e1, e2, e3⟩ := this
          exact ⟨vs, U, e1, RdE.mono (Ext.refl (fun _ => False) w) (fun _ _ h => h.elim) (fun b _ hp => Sat.drops_px c ks b hp) _ e2, e3⟩
  · exact Rd.mono (Ext.refl (fun _ => False) w) (fun _ _ h => h.elim) (fun b _ hp => Sat.drops_px c ks b hp) _ (c := none) (c' := none) trivial (h.gl i)
end
end Go.Vcg

namespace Go.Vcg

/-- A function that is handed objects does what is said of it. -/
def FOKx (P : Program) (T : Tb) (f : Nat) (hs : HSp) : Prop :=
  ∀ (X : Nat → Prop) (w : World) (c : Cx) (args : Array Value) (ds : List D) (ob : List (Nat × Ob)),
    Sat T X ⟨fun b => ∃ k, c.live k = true ∧ c.ids k = some b, c⟩ w c ⟨ds, ob⟩ { tmps := args, defers := [] } w → (∀ k, (ob.lookup k).isSome = true → baseN ≤ k) → hs.pre ds ob →
    Calls P f args w fun e w' => ∃ v c', e = .returned v ∧ Sat T X ⟨fun b => ∃ k, c.live k = true ∧ c.ids k = some b, c⟩ w c' ⟨[(hs.F ds ob).1], (hs.F ds ob).2⟩ { tmps := #[v], defers := [] } w'

/-- A function does what is said of it. -/
def FOK (P : Program) (T : Tb) (f : Nat) (sp : Sp) : Prop :=
  match sp.hx with
  | none => ∀ (X : Nat → Prop) (w : World) (args : Array Value) (ds : List D), (∀ x, w.heap.size ≤ x → ¬ X x) → (∀ i, Rd X w none (T.gl i) (.pointer (some ⟨i, 0, none⟩))) → RdL X w none ds args.toList → sp.pre ds →
    Calls P f args w fun e w' => ∃ v, e = .returned v ∧ Rd X w' none (sp.F ds) v ∧ Ext (fun _ => False) w w'
  | some hs => FOKx P T f hs

theorem FOK.plain {P : Program} {T : Tb} {f : Nat} {sp : Sp} (h : FOK P T f sp) (hx : sp.hx = none) : ∀ (X : Nat → Prop) (w : World) (args : Array Value) (ds : List D), (∀ x, w.heap.size ≤ x → ¬ X x) → (∀ i, Rd X w none (T.gl i) (.pointer (some ⟨i, 0, none⟩))) → RdL X w none ds args.toList → sp.pre ds →
    Calls P f args w fun e w' => ∃ v, e = .returned v ∧ Rd X w' none (sp.F ds) v ∧ Ext (fun _ => False) w w' := by
  unfold FOK at h
  rw [hx] at h
  exact h

/-- A function that is entered. -/
def Enters (P : Program) (f : Nat) : Prop := ∀ (argv : Array Value) (w : World), (callFunc f argv).run P w = .ok (.enter f argv) w

theorem enters_of {P : Program} {f : Nat} {fn : Func} (hf : P.funcs[f]? = some fn) (hb : fn.body.isSome = true) (hn : (fn.name == "runtime.NumGoroutine") = false) : Enters P f := by
  intro argv w
  have h1 : ¬ fn.name = "runtime.NumGoroutine" := by simpa using hn
  have h2 : ¬ fn.body = none := by intro h; rw [h] at hb; cases hb
  simp [callFunc, program, Sem.run, hf, h1, h2]

def TbOK (P : Program) (kf : Nat → Nat) (T : Tb) : Prop := ∀ f sp, T.sp (kf f) = some sp → FOK P T f sp ∧ Enters P f

section
variable {P : Program} {kf : Nat → Nat} {T : Tb} {X : Nat → Prop} {Y : Env} {w0 w : World} {c : Cx} {s : St} {a : Act}

/-! ### Handing on -/
mutual
theorem Sat.out1 (h : Sat T X Y w0 c s a w) {Z : Nat → Prop} (hZ : ∀ b, b < w.heap.size → Z b → PX X c b) : ∀ (d : D) {v : Value}, (d.norow = true ∨ ∀ k b, c.live k = true → c.ids k = some b → ¬ Z b) → Rd (PX X c) w (some c) d v → (d.out s.lk).clos = true → Rd Z w none (d.out s.lk) v
  | .int _ _, v, _, hr, _ => by simpa only [D.out, Rd] using hr
  | .bool _, v, _, hr, _ => by simpa only [D.out, Rd] using hr
  | .str _, v, _, hr, _ => by simpa only [D.out, Rd] using hr
  | .nilp, v, _, hr, _ => by simpa only [D.out, Rd] using hr
  | .nl sz, v, _, hr, _ => by simp only [D.out, Rd] at hr ⊢; exact .inl ⟨⟨none, hr⟩, trivial⟩
  | .any, v, _, _, _ => by simp only [D.out, Rd]
  | .fz sz es, v, _, hr, _ => by
    simp only [D.out]
    have := Rd.mono (Ext.refl (fun _ => False) w) (fun _ _ h => h.elim) hZ (.fz sz es) (c := some c) (c' := some c) (Cx.le_refl _) hr
    simpa only [Rd] using this
  | .ad sz es i o, v, _, hr, _ => by
    simp only [D.out]
    have := Rd.mono (Ext.refl (fun _ => False) w) (fun _ _ h => h.elim) hZ (.ad sz es i o) (c := some c) (c' := some c) (Cx.le_refl _) hr
    simpa only [Rd] using this
  | .agg cs, v, hn, hr, hc => by
    simp only [D.out, Rd, D.norow, D.clos] at hn hr hc ⊢
    obtain ⟨vs, h1, h2⟩ := hr
    exact ⟨vs, h1, Sat.outs h hZ cs hn h2 hc⟩
  | .tup cs, v, hn, hr, hc => by
    simp only [D.out, Rd, D.norow, D.clos] at hn hr hc ⊢
    obtain ⟨vs, h1, h2⟩ := hr
    exact ⟨vs, h1, Sat.outs h hZ cs hn h2 hc⟩
  | .clo f cs, v, hn, hr, hc => by
    simp only [D.out, Rd, D.norow, D.clos] at hn hr hc ⊢
    obtain ⟨vs, h1, h2⟩ := hr
    exact ⟨vs, h1, Sat.outs h hZ cs hn h2 hc⟩
  | .own k o, v, _, _, hc => by simp [D.out, D.clos] at hc
  | .elr k sz i o, v, _, _, hc => by simp [D.out, D.clos] at hc
  | .wh g d, v, _, _, hc => by simp [D.out, D.clos] at hc
  | .row k, v, hn, hr, hc => by
    simp only [D.out] at hc ⊢
    split at hc
    · rename_i sz es hk
      simp only [Rd] at hr
      rw [hr.2]
      rcases hn with hn | hn
      · simp [D.norow] at hn
      · exact h.row_open hZ (fun b hb => hn k b hr.1 hb) hk
    · simp [D.clos] at hc
theorem Sat.outs (h : Sat T X Y w0 c s a w) {Z : Nat → Prop} (hZ : ∀ b, b < w.heap.size → Z b → PX X c b) : ∀ (ds : List D) {vs : List Value}, (norowL ds = true ∨ ∀ k b, c.live k = true → c.ids k = some b → ¬ Z b) → RdL (PX X c) w (some c) ds vs → closL (outL s.lk ds) = true → RdL Z w none (outL s.lk ds) vs
  | [], _, _, hr, _ => by simpa only [outL, RdL] using hr
  | d :: ds, _, hn, hr, hc => by
    simp only [outL, RdL, norowL, closL, Bool.and_eq_true] at hn hr hc ⊢
    obtain ⟨v, r, h1, h2, h3⟩ := hr
    exact ⟨v, r, h1, Sat.out1 h hZ d (hn.imp (·.1) id) h2 hc.1, Sat.outs h hZ ds (hn.imp (·.2) id) h3 hc.2⟩
end

mutual
theorem Rd.scal {Z Z' : Nat → Prop} {w w' : World} {cx cx' : Option Cx} : ∀ (d : D) {v : Value}, d.scal = true → Rd Z w cx d v → Rd Z' w' cx' d v
  | .int _ _, _, _, h => by simpa only [Rd] using h
  | .bool _, _, _, h => by simpa only [Rd] using h
  | .str _, _, _, h => by simpa only [Rd] using h
  | .nilp, _, _, h => by simpa only [Rd] using h
  | .nl _, _, _, h => by simpa only [Rd] using h
  | .agg cs, _, hs, h => by
    simp only [Rd, D.scal] at h hs ⊢
    obtain ⟨vs, h1, h2⟩ := h
    exact ⟨vs, h1, RdL.scal cs hs h2⟩
  | .tup cs, _, hs, h => by
    simp only [Rd, D.scal] at h hs ⊢
    obtain ⟨vs, h1, h2⟩ := h
    exact ⟨vs, h1, RdL.scal cs hs h2⟩
  | .any, _, hs, _ | .fz _ _, _, hs, _ | .clo _ _, _, hs, _ | .own _ _, _, hs, _ | .row _, _, hs, _ | .elr _ _ _ _, _, hs, _ | .ad _ _ _ _, _, hs, _ | .wh _ _, _, hs, _ => by simp [D.scal] at hs
theorem RdL.scal {Z Z' : Nat → Prop} {w w' : World} {cx cx' : Option Cx} : ∀ (ds : List D) {vs : List Value}, scalL ds = true → RdL Z w cx ds vs → RdL Z' w' cx' ds vs
  | [], _, _, h => by simpa only [RdL] using h
  | d :: ds, _, hs, h => by
    simp only [RdL, scalL, Bool.and_eq_true] at h hs ⊢
    obtain ⟨v, r, h1, h2, h3⟩ := h
    exact ⟨v, r, h1, Rd.scal d hs.1 h2, RdL.scal ds hs.2 h3⟩
end

theorem cArgs_read (h : Sat T X Y w0 c s a w) : ∀ {Ts : List TypeId} {xs : List Operand} {ys : List Opd}, cArgs P Ts xs = some ys → gus T s ys → RdL (PX X c) w (some c) (ys.map fun y => (y.ev T s).un) (xs.map a.eval)
  | [], [], _, hc, _ => by simp [cArgs] at hc; subst hc; simp [RdL]
  | [], _ :: _, _, hc, _ => by simp [cArgs] at hc
  | _ :: _, [], _, hc, _ => by simp [cArgs] at hc
  | U :: Ts, x :: xs, ys, hc, hg => by
    simp only [cArgs] at hc
    split at hc
    · rename_i y l hy hl
      simp at hc
      subst hc
      simp only [gus] at hg
      simp only [List.map_cons, RdL]
      exact ⟨_, _, rfl, h.opdU hy hg.1, cArgs_read h hl hg.2⟩
    · simp at hc

theorem outL_map (lk : Nat → Option Ob) : ∀ (ds : List D), outL lk ds = ds.map (D.out lk)
  | [] => rfl
  | d :: ds => by simp [outL, outL_map lk ds]

theorem snd_call (hT : TbOK P kf T) (h : Sat T X Y w0 c s a w) {o : Oper} {f : Nat} {args : Array Operand} {argTypes : Array TypeId} {ys : List Opd} {sp : Sp} (ho : o.op = .call { callee := .value (.func f), args, argTypes }) (hc : cArgs P argTypes.toList args.toList = some ys) (hg : gus T s ys) (hsp : T.sp (kf f) = some sp) (hhx : sp.hx = none)
    (hpre : sp.pre (ys.map fun x => (x.ev T s).un.out s.lk)) (hcl : closL (ys.map fun x => (x.ev T s).un.out s.lk) = true) (hnr : norowL (ys.map fun x => (x.ev T s).un) = false → (sp.F (ys.map fun x => (x.ev T s).un.out s.lk)).scal = true)
    {K : Act → World → Prop} {Q : Exit → Act → World → Prop} (hK : ∀ v w', Sat T X Y w0 c s a w' → Rd (PX X c) w' (some c) (sp.F (ys.map fun x => (x.ev T s).un.out s.lk)) v → K (a.put o.dst v) w') : o.wp P a w K Q := by
  have hrd := cArgs_read h hc hg
  have hmap : (ys.map fun x => (x.ev T s).un.out s.lk) = outL s.lk (ys.map fun y => (y.ev T s).un) := by rw [outL_map, List.map_map]; rfl
  have hrun : (execOp a.eval o).run P w = .ok (.enter f (args.map a.eval)) w := by
    simp only [execOp, ho, resolve, Act.eval, Deferred.ofValue, Sem.run_bind, Sem.run_pure, Result.andThen_ok, invoke]
    simpa using (hT f sp hsp).2 (args.map a.eval) w
  unfold Oper.wp
  rw [hrun, Oper.upon_enter]
  have hw0 := h.ext.size
  cases hrow : norowL (ys.map fun x => (x.ev T s).un) with
  | true =>
    have hargs : RdL (PX X c) w none (ys.map fun x => (x.ev T s).un.out s.lk) (args.map a.eval).toList := by
      rw [hmap] at hcl ⊢
      rw [Array.toList_map]
      exact Sat.outs h (fun _ _ h => h) _ (.inl hrow) hrd hcl
    refine ((hT f sp hsp).1.plain hhx (PX X c) w _ _ (fun x hx hp => ?_) h.gl hargs hpre).mono fun e w' ⟨v, he, hv, hE⟩ => ?_
    · rcases hp with hp | ⟨k, hl, hk⟩
      · exact h.Xb x (by omega) hp
      · have := h.id_lt hl hk; omega
    · subst he
      exact hK v w' (h.world hE) hv.closed
  | false =>
    have hargs : RdL (fun _ => False) w none (ys.map fun x => (x.ev T s).un.out s.lk) (args.map a.eval).toList := by
      rw [hmap] at hcl ⊢
      rw [Array.toList_map]
      exact Sat.outs h (fun _ _ h => h.elim) _ (.inr fun _ _ _ _ h => h) hrd hcl
    refine ((hT f sp hsp).1.plain hhx (fun _ => False) w _ _ (fun _ _ h => h) (fun i => Rd.mono (Ext.refl (fun _ => False) w) (fun _ _ h => h.elim) (fun _ _ h => h.elim) _ (c := none) (c' := none) trivial (h.gl i)) hargs hpre).mono fun e w' ⟨v, he, hv, hE⟩ => ?_
    subst he
    exact hK v w' (h.world hE) (Rd.scal _ (hnr hrow) hv)

/-! ### One operation -/
theorem undef_notBool (b : Bool) : undef ≠ .bool b := by unfold undef; intro h; cases h

/-- The guard's Bool says whether the operation is carried out. -/
theorem Sat.guard (h : Sat T X Y w0 c s a w) {ops : Array Oper} {o : Oper} {g : Option (Nat × Bool)} (hg : guardSlot ops o.guard = some g) {G : Bool} (hG : gd s g = some G) : Region.wanted o (yielded ops a.tmps) = G := by
  unfold Region.wanted
  cases ho : o.guard with
  | none =>
    rw [ho] at hg
    simp [guardSlot] at hg
    subst hg
    simp [gd] at hG
    simp [hG]
  | some jw =>
    obtain ⟨j, want⟩ := jw
    rw [ho] at hg
    simp only [guardSlot] at hg
    cases hd : (ops[j]?).bind (·.dst) with
    | none => simp [hd] at hg
    | some d =>
      simp [hd] at hg
      subst hg
      simp only [gd] at hG
      have hr := h.getT d
      have hy : ∀ b, a.tmps.getD d undef = .bool b → yielded ops a.tmps j = some b := by
        intro b hb
        unfold yielded
        rw [hd]
        simp only [Option.bind_some]
        cases ht : a.tmps[d]? with
        | none => simp [ht] at hb; exact absurd hb (undef_notBool b)
        | some v => simp [ht] at hb; subst hb; rfl
      have hn : a.tmps.getD d undef = undef → yielded ops a.tmps j = none := by
        intro hb
        unfold yielded
        rw [hd]
        simp only [Option.bind_some]
        cases ht : a.tmps[d]? with
        | none => rfl
        | some v => simp [ht] at hb; subst hb; rfl
      simp only
      split at hG
      · rename_i b hs
        rw [hs] at hr
        simp only [Rd] at hr
        rw [hy b hr]
        simp at hG
        rw [← hG]
        cases b <;> cases want <;> rfl
      · rename_i g b hs
        rw [hs] at hr
        simp only [Rd] at hr
        simp at hG
        rw [← hG]
        cases g with
        | true => rw [hy b (hr.1 rfl)]; cases b <;> cases want <;> rfl
        | false => rw [hn (hr.2 rfl)]; rfl
      · cases hG

theorem wrap_read {Z : Nat → Prop} {cx : Option Cx} {g : Option (Nat × Bool)} {G : Bool} {d : D} {v : Value} (h : Rd Z w cx d v) (hG : G = true) : Rd Z w cx (wrapD g G d) v := by
  unfold wrapD
  split
  · exact h
  · simp only [Rd]; exact ⟨fun _ => h, fun e => by rw [hG] at e; cases e⟩
theorem wrap_undef {Z : Nat → Prop} {cx : Option Cx} {jw : Nat × Bool} {d : D} : Rd Z w cx (wrapD (some jw) false d) undef := by
  simp only [wrapD, Rd]; exact ⟨(fun e => by cases e), fun _ => trivial⟩

theorem pickD_read {Z : Nat → Prop} {cx : Option Cx} {b : Bool} {d e r : D} (h : pickD b d e = some r) {u v : Value} (hd : b = true → Rd Z w cx d u) (he : b = false → Rd Z w cx e v) : Rd Z w cx r (if b then u else v) := by
  unfold pickD at h
  split at h
  · obtain rfl := Option.some.inj h
    cases b <;> simp only [Rd] at hd he ⊢ <;> simp_all
  · split at h
    · rename_i hk
      subst hk
      obtain rfl := Option.some.inj h
      cases b <;> simp only [Rd] at hd he ⊢ <;> simp_all
    · cases h
  · cases h

theorem snd_pick (h : Sat T X Y w0 c s a w) {o : Oper} {x y z : Operand} {U V W : TypeId} {x' y' z' : Opd} (ho : o.op = .pick x y z) (hx : cOpd P U x = some x') (hy : cOpd P V y = some y') (hz : cOpd P W z = some z') {b : Bool} (hb : (x'.ev T s).un = .bool b) {d : D} (hd : pickD b (y'.ev T s).un (z'.ev T s).un = some d)
    (hgx : (x'.ev T s).gu = true) (hgy : b = true → (y'.ev T s).gu = true) (hgz : b = false → (z'.ev T s).gu = true) : Yld P X c a w o d := by
  have hrx := h.opdU hx hgx
  rw [hb] at hrx
  simp only [Rd] at hrx
  refine ⟨if b then a.eval y else a.eval z, ?_, pickD_read hd (fun e => h.opdU hy (hgy e)) (fun e => h.opdU hz (hgz e))⟩
  simp only [execOp, ho, hrx, asBool, Sem.run_bind, Sem.run_pure, Result.andThen_ok]
end
end Go.Vcg

namespace Go.Vcg
section
variable {P : Program} {kf : Nat → Nat} {T : Tb} {X : Nat → Prop} {Y : Env} {w0 w : World} {c : Cx} {s : St} {a : Act}

/-! ### A call that is handed objects -/
section
variable {Z Z' : Nat → Prop} {w : World} {c c' : Cx} {m : Nat → Option Nat}
mutual
theorem ren_read (hZ : ∀ b, b < w.heap.size → Z' b → Z b) (hm : ∀ k j, m k = some j → c.live k = true → c'.live j = true ∧ c'.ids j = c.ids k ∧ c'.rv j = c.rv k) : ∀ (d : D) {v : Value}, Rd Z w (some c) d v → Rd Z' w (some c') (d.ren m) v
  | .int _ _, _, hr => by simpa only [D.ren, Rd] using hr
  | .bool _, _, hr => by simpa only [D.ren, Rd] using hr
  | .str _, _, hr => by simpa only [D.ren, Rd] using hr
  | .nilp, _, hr => by simpa only [D.ren, Rd] using hr
  | .nl _, _, hr => by simpa only [D.ren, Rd] using hr
  | .any, _, _ => by simp only [D.ren, Rd]
  | .fz sz es, v, hr => by
    simp only [D.ren]
    have := Rd.mono (Ext.refl (fun _ => False) w) (fun _ _ h => h.elim) hZ (.fz sz es) (c := some c) (c' := some c) (Cx.le_refl _) hr
    simpa only [Rd] using this
  | .ad sz es i o, v, hr => by
    simp only [D.ren]
    have := Rd.mono (Ext.refl (fun _ => False) w) (fun _ _ h => h.elim) hZ (.ad sz es i o) (c := some c) (c' := some c) (Cx.le_refl _) hr
    simpa only [Rd] using this
  | .agg cs, v, hr => by
    simp only [D.ren, Rd] at hr ⊢
    obtain ⟨vs, h1, h2⟩ := hr
    exact ⟨vs, h1, renL_read hZ hm cs h2⟩
  | .tup cs, v, hr => by
    simp only [D.ren, Rd] at hr ⊢
    obtain ⟨vs, h1, h2⟩ := hr
    exact ⟨vs, h1, renL_read hZ hm cs h2⟩
  | .clo f cs, v, hr => by
    simp only [D.ren, Rd] at hr ⊢
    obtain ⟨vs, h1, h2⟩ := hr
    exact ⟨vs, h1, renL_read hZ hm cs h2⟩
  | .wh g d, v, hr => by
    simp only [D.ren, Rd] at hr ⊢
    exact ⟨fun hg => ren_read hZ hm d (hr.1 hg), hr.2⟩
  | .own k o, v, hr => by
    simp only [D.ren]
    simp only [Rd] at hr
    obtain ⟨hl, b, hb, hv⟩ := hr
    split
    · rename_i j hj
      obtain ⟨h1, h2, _⟩ := hm k j hj hl
      simp only [Rd]
      exact ⟨h1, b, h2.trans hb, hv⟩
    · simp only [Rd]
  | .elr k sz i o, v, hr => by
    simp only [D.ren]
    simp only [Rd] at hr
    obtain ⟨hl, b, hb, hv⟩ := hr
    split
    · rename_i j hj
      obtain ⟨h1, h2, _⟩ := hm k j hj hl
      simp only [Rd]
      exact ⟨h1, b, h2.trans hb, hv⟩
    · simp only [Rd]
  | .row k, v, hr => by
    simp only [D.ren]
    simp only [Rd] at hr
    obtain ⟨hl, hv⟩ := hr
    split
    · rename_i j hj
      obtain ⟨h1, _, h3⟩ := hm k j hj hl
      simp only [Rd]
      exact ⟨h1, hv.trans h3.symm⟩
    · simp only [Rd]
theorem renL_read (hZ : ∀ b, b < w.heap.size → Z' b → Z b) (hm : ∀ k j, m k = some j → c.live k = true → c'.live j = true ∧ c'.ids j = c.ids k ∧ c'.rv j = c.rv k) : ∀ (ds : List D) {vs : List Value}, RdL Z w (some c) ds vs → RdL Z' w (some c') (renL m ds) vs
  | [], _, hr => by simpa only [renL, RdL] using hr
  | d :: ds, _, hr => by
    simp only [renL, RdL] at hr ⊢
    obtain ⟨v, r, h1, h2, h3⟩ := hr
    exact ⟨v, r, h1, ren_read hZ hm d h2, renL_read hZ hm ds h3⟩
end
end

theorem pos_spec : ∀ {k : Nat} {ks : List Nat} {i : Nat}, pos k ks = some i → ks[i]? = some k
  | k, [], i, h => by simp [pos] at h
  | k, j :: r, i, h => by
    simp only [pos] at h
    split at h
    · rename_i hj; cases h; simp [hj]
    · simp only [Option.map_eq_some_iff] at h
      obtain ⟨q, hq, rfl⟩ := h
      simpa using pos_spec hq
theorem pos_mem : ∀ {k : Nat} {ks : List Nat}, pos k ks = none → k ∉ ks
  | k, [], h => by simp
  | k, j :: r, h => by
    simp only [pos] at h
    split at h
    · cases h
    · rename_i hj
      simp only [Option.map_eq_none_iff] at h
      simp only [List.mem_cons, not_or]
      exact ⟨fun e => hj e.symm, pos_mem h⟩
theorem pos_get : ∀ {ks : List Nat} {i k : Nat}, apartN ks = true → ks[i]? = some k → pos k ks = some i
  | [], i, k, _, h => by simp at h
  | j :: r, 0, k, _, h => by simp at h; simp [pos, h]
  | j :: r, i + 1, k, ha, h => by
    simp only [apartN, Bool.and_eq_true, Bool.not_eq_true', List.contains_eq_mem, decide_eq_false_iff_not] at ha
    have h' : r[i]? = some k := by simpa using h
    have hne : j ≠ k := fun e => ha.1 (e ▸ List.mem_of_getElem? h')
    simp only [pos, if_neg hne, pos_get ha.2 h', Option.map_some]

theorem lk_inObs (lk : Nat → Option Ob) (ks : List Nat) : ∀ (r : List Nat) (i n : Nat), (∀ k ∈ r, (lk k).isSome = true) → (inObs lk ks i r).lookup n = if baseN + i ≤ n then (r[n - (baseN + i)]?).bind (fun k => (lk k).map (Ob.ren (inM ks))) else none
  | [], i, n, _ => by simp [inObs, List.lookup]
  | k :: r, i, n, h => by
    obtain ⟨o, ho⟩ := Option.isSome_iff_exists.1 (h k (by simp))
    simp only [inObs, ho]
    have ih := lk_inObs lk ks r (i + 1) n (fun k hk => h k (by simp [hk]))
    by_cases hn : n = baseN + i
    · subst hn; simp [List.lookup, ho]
    · have h1 : (n == baseN + i) = false := by simpa using hn
      simp only [List.lookup, h1]
      rw [ih]
      by_cases hle : baseN + i ≤ n
      · rw [if_pos hle, if_pos (by omega)]
        have : n - (baseN + i) = (n - (baseN + (i + 1))) + 1 := by omega
        rw [this, List.getElem?_cons_succ]
      · rw [if_neg hle, if_neg (by omega)]

/-- Where the handed-in objects lie. -/
def Cx.into (c : Cx) (ks : List Nat) : Cx :=
  { ids := fun n => (ks[n - baseN]?).bind c.ids, rv := fun n => match ks[n - baseN]? with | some k => c.rv k | none => .nilFunc, live := fun n => decide (baseN ≤ n) && decide (n - baseN < ks.length) }
def XIn (X : Nat → Prop) (c : Cx) (ks : List Nat) : Nat → Prop := fun b => X b ∨ ∃ k, c.live k = true ∧ k ∉ ks ∧ c.ids k = some b

theorem Sat.enter (h : Sat T X Y w0 c s a w) {ks : List Nat} (hap : apartN ks = true) (hall : ∀ k ∈ ks, (s.lk k).isSome = true) {ds : List D} {args : Array Value} (hr : RdL (PX X c) w (some c) ds args.toList) :
    Sat T (XIn X c ks) ⟨fun b => ∃ k, (c.into ks).live k = true ∧ (c.into ks).ids k = some b, c.into ks⟩ w (c.into ks) ⟨renL (inM ks) ds, inObs s.lk ks 0 ks⟩ { tmps := args, defers := [] } w := by
  have hlk : ∀ n, St.lk ⟨renL (inM ks) ds, inObs s.lk ks 0 ks⟩ n = if baseN ≤ n then (ks[n - baseN]?).bind (fun k => (s.lk k).map (Ob.ren (inM ks))) else none := fun n => by
    have := lk_inObs s.lk ks ks 0 n hall
    rw [Nat.add_zero] at this
    exact this
  have hlv : ∀ n, (c.into ks).live n = true → ∃ k, baseN ≤ n ∧ ks[n - baseN]? = some k ∧ k ∈ ks ∧ c.live k = true ∧ (c.into ks).ids n = c.ids k ∧ (c.into ks).rv n = c.rv k := by
    intro n hn
    simp only [Cx.into, Bool.and_eq_true, decide_eq_true_eq] at hn
    have hk : ks[n - baseN]? = some (ks[n - baseN]'hn.2) := List.getElem?_eq_getElem hn.2
    have hm : ks[n - baseN]'hn.2 ∈ ks := List.getElem_mem hn.2
    exact ⟨_, hn.1, hk, hm, by rw [h.live]; exact hall _ hm, by simp only [Cx.into, hk, Option.bind_some], by simp only [Cx.into, hk]⟩
  have hPX : ∀ b, PX (XIn X c ks) (c.into ks) b → PX X c b := by
    intro b hp
    rcases hp with (hp | ⟨k, h1, h2, h3⟩) | ⟨n, hn, hb⟩
    · exact .inl hp
    · exact .inr ⟨k, h1, h3⟩
    · obtain ⟨k, _, _, _, h4, h5, _⟩ := hlv n hn
      exact .inr ⟨k, h4, by rw [← h5]; exact hb⟩
  have hm : ∀ k j, inM ks k = some j → c.live k = true → (c.into ks).live j = true ∧ (c.into ks).ids j = c.ids k ∧ (c.into ks).rv j = c.rv k := by
    intro k j hk _
    simp only [inM, Option.map_eq_some_iff] at hk
    obtain ⟨i, hi, rfl⟩ := hk
    have hg := pos_spec hi
    have hil : i < ks.length := (List.getElem?_eq_some_iff.1 hg).1
    have e : baseN + i - baseN = i := by omega
    refine ⟨?_, ?_, ?_⟩
    · simp only [Cx.into, e, Bool.and_eq_true, decide_eq_true_eq]; omega
    · simp only [Cx.into, e, hg, Option.bind_some]
    · simp only [Cx.into, e, hg]
  refine ⟨fun n => ?_, renL_read (fun b _ hp => hPX b hp) hm _ hr, fun n o hn => ?_, fun n n' b hn hn' hb hb' => ?_, fun n b hn hb => ?_, Ext.refl _ _, fun i => ?_, fun x hx hp => ?_, fun n hn => ?_, rfl, fun n _ _ => ⟨rfl, rfl⟩⟩
  · rw [hlk]
    by_cases hb : baseN ≤ n
    · rw [if_pos hb]
      by_cases hl : n - baseN < ks.length
      · have hk : ks[n - baseN]? = some (ks[n - baseN]'hl) := List.getElem?_eq_getElem hl
        obtain ⟨o, ho⟩ := Option.isSome_iff_exists.1 (hall _ (List.getElem_mem hl))
        rw [hk]
        simp only [Option.bind_some, ho, Option.map_some, Option.isSome_some, Cx.into, Bool.and_eq_true, decide_eq_true_eq]
        exact ⟨hb, hl⟩
      · have hk : ks[n - baseN]? = none := List.getElem?_eq_none (by omega)
        rw [hk]
        simp only [Cx.into, Option.bind_none, Option.isSome_none, Bool.and_eq_false_iff, decide_eq_false_iff_not]
        exact .inr hl
    · rw [if_neg hb]
      simp only [Cx.into, Option.isSome_none, Bool.and_eq_false_iff, decide_eq_false_iff_not]
      exact .inl hb
  · rw [hlk] at hn
    split at hn
    · rename_i hb
      cases hk : ks[n - baseN]? with
      | none => rw [hk] at hn; cases hn
      | some k =>
        rw [hk] at hn
        simp only [Option.bind_some, Option.map_eq_some_iff] at hn
        obtain ⟨o', ho', rfl⟩ := hn
        have hob := h.ob k o' ho'
        have e1 : (c.into ks).ids n = c.ids k := by simp only [Cx.into, hk, Option.bind_some]
        have e2 : (c.into ks).rv n = c.rv k := by simp only [Cx.into, hk]
        cases o' with
        | box cs =>
          obtain ⟨b, arr, U, g1, g2, g3⟩ := hob
          exact ⟨b, arr, U, e1.trans g1, g2, renL_read (fun b _ hp => hPX b hp) hm _ g3⟩
        | row sz es =>
          obtain ⟨vs, U, g1, g2, g3⟩ := hob
          refine ⟨vs, U, ?_, RdE.mono (Ext.refl (fun _ => False) w) (fun _ _ h => h.elim) (fun b _ hp => hPX b hp) _ g2, g3⟩
          rw [e1, e2]; exact g1
    · cases hn
  · obtain ⟨k, h1, h2, h3, h4, h5, _⟩ := hlv n hn
    obtain ⟨k', h1', h2', h3', h4', h5', _⟩ := hlv n' hn'
    rw [h5] at hb
    rw [h5'] at hb'
    have := h.inj k k' b h4 h4' hb hb'
    subst this
    have e1 := pos_get hap h2
    have e2 := pos_get hap h2'
    rw [e1] at e2
    have := Option.some.inj e2
    omega
  · obtain ⟨k, h1, h2, h3, h4, h5, _⟩ := hlv n hn
    refine ⟨.inr ⟨n, hn, hb⟩, ?_⟩
    rw [h5] at hb
    rintro (hp | ⟨j, j1, j2, j3⟩)
    · exact (h.fresh k b h4 hb).2 hp
    · have := h.inj j k b j1 h4 j3 hb
      subst this
      exact j2 h3
  · exact Rd.mono (Ext.refl (fun _ => False) w) (fun _ _ h => h.elim) (fun b _ hp => hPX b hp) _ (c := none) (c' := none) trivial (h.gl i)
  · rcases hp with hp | ⟨j, j1, _, j3⟩
    · have := h.ext.size
      exact h.Xb x (by omega) hp
    · have := h.id_lt j1 j3; omega
  · obtain ⟨k, _, _, _, h4, _, h6⟩ := hlv n hn
    rw [h6]
    exact h.rv1 k h4

/-! ### And back -/
def backN (j : Nat) (ks : List Nat) (n : Nat) : Nat := match pos n ks with | some i => baseN + i | none => n - 10000 * (j + 1)
def isNew (c2 : Cx) (j : Nat) (ks : List Nat) (n : Nat) : Bool := c2.live (backN j ks n) && decide (outM j ks (backN j ks n) = some n)
def Cx.back (c c2 : Cx) (j : Nat) (ks : List Nat) : Cx :=
  { ids := fun n => if isNew c2 j ks n = true then c2.ids (backN j ks n) else c.ids n, rv := fun n => if isNew c2 j ks n = true then c2.rv (backN j ks n) else c.rv n, live := fun n => isNew c2 j ks n || (c.live n && !ks.contains n) }

theorem RdL.forgets {Z : Nat → Prop} {w : World} : ∀ (ks : List Nat) {c : Cx} {ds : List D} {vs : List Value}, RdL Z w (some c) ds vs → RdL Z w (some (c.drops ks)) (forgetLs ks ds) vs
  | [], c, ds, vs, h => by
    have : c.drops [] = c := by simp [Cx.drops]
    rw [this]; exact h
  | k :: r, c, ds, vs, h => by
    have := RdL.forgets r (RdL.forget k ds h)
    have e : (c.drop k).drops r = c.drops (k :: r) := by
      simp only [Cx.drops, Cx.drop, Cx.mk.injEq, true_and]
      funext i
      by_cases hi : i = k
      · simp [hi]
      · simp [hi]
    rw [e] at this
    exact this

def Ob.forgets (ks : List Nat) : Ob → Ob
  | .box cs => .box (forgetLs ks cs)
  | o => o
theorem lk_dropObs : ∀ (ks : List Nat) (l : List (Nat × Ob)) (n : Nat), (dropObs ks l).lookup n = if ks.contains n = true then none else (l.lookup n).map (Ob.forgets ks)
  | [], l, n => by
    simp only [dropObs, List.contains_nil, Bool.false_eq_true, if_false]
    cases l.lookup n with
    | none => rfl
    | some o => cases o <;> rfl
  | k :: r, l, n => by
    simp only [dropObs]
    rw [lk_dropObs r, lk_forget, lk_del]
    by_cases hn : n = k
    · subst hn; simp
    · have : (n == k) = false := by simpa using hn
      simp only [List.contains_cons, this, Bool.false_or, if_neg hn]
      split
      · rfl
      · cases l.lookup n with
        | none => rfl
        | some o => cases o <;> rfl
theorem lk_putObs : ∀ (l0 l : List (Nat × Ob)) (n : Nat), (putObs l0 l).lookup n = match l0.lookup n with | some o => some o | none => l.lookup n
  | [], l, n => by simp [putObs, List.lookup]
  | (k, o) :: r, l, n => by
    simp only [putObs]
    rw [lk_put]
    by_cases hn : n = k
    · subst hn; simp [List.lookup]
    · have : (n == k) = false := by simpa using hn
      simp only [if_neg hn, List.lookup, this]
      exact lk_putObs r l n

theorem outObs_some {j : Nat} {ks : List Nat} : ∀ {l : List (Nat × Ob)} {n : Nat} {o : Ob}, (outObs j ks l).lookup n = some o → ∃ k o', l.lookup k = some o' ∧ outM j ks k = some n ∧ o = o'.ren (outM j ks)
  | [], n, o, h => by simp [outObs, List.lookup] at h
  | (k, p) :: r, n, o, h => by
    simp only [outObs] at h
    cases hm : outM j ks k with
    | none =>
      rw [hm] at h
      obtain ⟨k', o', h1, h2, h3⟩ := outObs_some h
      refine ⟨k', o', ?_, h2, h3⟩
      have hne : k' ≠ k := fun e => by rw [e, hm] at h2; cases h2
      have : (k' == k) = false := by simpa using hne
      simp only [List.lookup, this]; exact h1
    | some q =>
      rw [hm] at h
      by_cases hn : n = q
      · subst hn
        simp only [List.lookup, beq_self_eq_true, Option.some.injEq] at h
        exact ⟨k, p, by simp [List.lookup], hm, h.symm⟩
      · have h1 : (n == q) = false := by simpa using hn
        simp only [List.lookup, h1] at h
        obtain ⟨k', o', g1, g2, g3⟩ := outObs_some h
        refine ⟨k', o', ?_, g2, g3⟩
        have hne : k' ≠ k := fun e => by rw [e, hm] at g2; exact hn (Option.some.inj g2).symm
        have : (k' == k) = false := by simpa using hne
        simp only [List.lookup, this]; exact g1
theorem outObs_get {j : Nat} {ks : List Nat} : ∀ {l : List (Nat × Ob)} {n k : Nat} {o : Ob}, (∀ k', (l.lookup k').isSome = true → outM j ks k' = some n → k' = k) → l.lookup k = some o → outM j ks k = some n → (outObs j ks l).lookup n = some (o.ren (outM j ks))
  | [], n, k, o, _, h, _ => by simp [List.lookup] at h
  | (i, p) :: r, n, k, o, hinj, h, hm => by
    simp only [outObs]
    by_cases hk : k = i
    · subst hk
      simp [List.lookup] at h
      subst h
      rw [hm]
      simp [List.lookup]
    · have h1 : (k == i) = false := by simpa using hk
      simp only [List.lookup, h1] at h
      have ih : (outObs j ks r).lookup n = some (o.ren (outM j ks)) := outObs_get (fun k' hk' hm' => by
        by_cases he : k' = i
        · exact hinj k' (by simp [List.lookup, he]) hm'
        · refine hinj k' ?_ hm'
          have : (k' == i) = false := by simpa using he
          simp only [List.lookup, this]; exact hk') h hm
      cases hq : outM j ks i with
      | none => exact ih
      | some q =>
        have : n ≠ q := fun e => hk ((hinj i (by simp [List.lookup]) (by rw [hq, e])).symm)
        have h2 : (n == q) = false := by simpa using this
        simp only [List.lookup, h2]; exact ih

theorem goneK_mem {ob : List (Nat × Ob)} : ∀ {r : List Nat} {i n : Nat}, n ∈ goneK ob i r ↔ ∃ q, r[q]? = some n ∧ (ob.lookup (baseN + (i + q))).isSome = false
  | [], i, n => by simp [goneK]
  | k :: r, i, n => by
    have ih := @goneK_mem ob r (i + 1) n
    simp only [goneK]
    have hstep : (∃ q, (k :: r)[q]? = some n ∧ (ob.lookup (baseN + (i + q))).isSome = false) ↔ (k = n ∧ (ob.lookup (baseN + i)).isSome = false) ∨ ∃ q, r[q]? = some n ∧ (ob.lookup (baseN + (i + 1 + q))).isSome = false := by
      constructor
      · rintro ⟨q, h1, h2⟩
        cases q with
        | zero => left; simp at h1; exact ⟨h1, h2⟩
        | succ q =>
          right
          refine ⟨q, by simpa using h1, ?_⟩
          have : i + (q + 1) = i + 1 + q := by omega
          rw [this] at h2; exact h2
      · rintro (⟨h1, h2⟩ | ⟨q, h1, h2⟩)
        · exact ⟨0, by simp [h1], h2⟩
        · refine ⟨q + 1, by simpa using h1, ?_⟩
          have : i + (q + 1) = i + 1 + q := by omega
          rw [this]; exact h2
    rw [hstep]
    cases hs : (ob.lookup (baseN + i)).isSome with
    | true =>
      rw [if_pos rfl, ih]
      constructor
      · exact .inr
      · rintro (⟨_, h⟩ | h)
        · cases h
        · exact h
    | false =>
      rw [if_neg (by simp), List.mem_cons, ih]
      constructor
      · rintro (h | h)
        · exact .inl ⟨h.symm, rfl⟩
        · exact .inr h
      · rintro (⟨h, _⟩ | h)
        · exact .inl h.symm
        · exact .inr h

theorem okNames_spec {n : Nat} {ob : List (Nat × Ob)} (h : okNames n ob = true) {k : Nat} (hk : (ob.lookup k).isSome = true) : k < 10000 ∨ baseN ≤ k ∧ k < baseN + n := by
  unfold okNames at h
  simp only [Bool.and_eq_true, List.all_eq_true, Bool.or_eq_true, decide_eq_true_eq] at h
  have hmem : ∀ (l : List (Nat × Ob)), (l.lookup k).isSome = true → ∃ o, (k, o) ∈ l := by
    intro l
    induction l with
    | nil => intro h; simp [List.lookup] at h
    | cons q l ih =>
      intro h
      obtain ⟨q1, q2⟩ := q
      by_cases hq : k = q1
      · exact ⟨q2, by simp [hq]⟩
      · have : (k == q1) = false := by simpa using hq
        simp only [List.lookup, this] at h
        obtain ⟨o, ho⟩ := ih h
        exact ⟨o, List.mem_cons_of_mem _ ho⟩
  obtain ⟨o, ho⟩ := hmem ob hk
  exact h.2 _ ho

theorem baseN_big : 10000 ≤ baseN := by unfold baseN; decide

theorem into_ids {ks : List Nat} {n i : Nat} (h : ks[i]? = some n) : (c.into ks).ids (baseN + i) = c.ids n ∧ (c.into ks).rv (baseN + i) = c.rv n := by
  have e : baseN + i - baseN = i := by omega
  constructor <;> simp only [Cx.into, e, h, Option.bind_some]
theorem into_live {ks : List Nat} {n : Nat} (h : (c.into ks).live n = true) : ∃ k, k ∈ ks ∧ (c.into ks).ids n = c.ids k := by
  simp only [Cx.into, Bool.and_eq_true, decide_eq_true_eq] at h
  have hk : ks[n - baseN]? = some (ks[n - baseN]'h.2) := List.getElem?_eq_getElem h.2
  exact ⟨_, List.getElem_mem h.2, by simp only [Cx.into, hk, Option.bind_some]⟩

theorem Sat.leave (h : Sat T X Y w0 c s a w) {ks : List Nat} (hap : apartN ks = true) (hall : ∀ k ∈ ks, (s.lk k).isSome = true) {w' : World} {c2 : Cx} {d : D} {ob : List (Nat × Ob)} {v : Value}
    (h2 : Sat T (XIn X c ks) ⟨fun b => ∃ k, (c.into ks).live k = true ∧ (c.into ks).ids k = some b, c.into ks⟩ w c2 ⟨[d], ob⟩ { tmps := #[v], defers := [] } w')
    (hok : okNames ks.length ob = true) {j : Nat} (hj : ∀ k, (ob.lookup k).isSome = true → k < baseN → s.lk (10000 * (j + 1) + k) = none ∧ 10000 * (j + 1) + k < baseN) :
    Sat T X Y w0 (c.back c2 j ks) ⟨forgetLs (goneK ob 0 ks) s.tm, putObs (outObs j ks ob) (dropObs (goneK ob 0 ks) s.ob)⟩ a w' ∧ Rd (PX X (c.back c2 j ks)) w' (some (c.back c2 j ks)) (d.ren (outM j ks)) v := by
  have hbig := baseN_big
  have hl2 : ∀ k, c2.live k = (ob.lookup k).isSome := h2.live
  have hout : ∀ k, k < baseN → outM j ks k = some (10000 * (j + 1) + k) := fun k hk => by rw [outM, if_pos hk]
  have hout' : ∀ k, baseN ≤ k → outM j ks k = ks[k - baseN]? := fun k hk => by rw [outM, if_neg (by omega)]
  have F1 : ∀ k n, c2.live k = true → outM j ks k = some n → backN j ks n = k := by
    intro k n hk hm
    rw [hl2] at hk
    rcases okNames_spec hok hk with hlt | ⟨hle, _⟩
    · rw [hout k (by omega)] at hm
      obtain rfl := Option.some.inj hm
      have hnone := (hj k hk (by omega)).1
      unfold backN
      cases hp : pos (10000 * (j + 1) + k) ks with
      | none => simp only; omega
      | some i =>
        have := hall _ (List.mem_of_getElem? (pos_spec hp))
        rw [hnone] at this; cases this
    · rw [hout' k hle] at hm
      unfold backN
      rw [pos_get hap hm]
      simp only; omega
  have F2 : ∀ n, isNew c2 j ks n = true → c2.live (backN j ks n) = true ∧ outM j ks (backN j ks n) = some n := by
    intro n hn
    simpa only [isNew, Bool.and_eq_true, decide_eq_true_eq] using hn
  have F3 : ∀ k n, c2.live k = true → outM j ks k = some n → isNew c2 j ks n = true ∧ backN j ks n = k := by
    intro k n hk hm
    have hb := F1 k n hk hm
    exact ⟨by simp only [isNew, hb, hk, hm, decide_true, Bool.and_self], hb⟩
  have F4 : ∀ n, isNew c2 j ks n = true → n ∈ ks → c2.ids (backN j ks n) = c.ids n ∧ c2.rv (backN j ks n) = c.rv n := by
    intro n hn hk
    obtain ⟨q1, q2⟩ := F2 n hn
    cases hp : pos n ks with
    | none => exact absurd hk (pos_mem hp)
    | some i =>
      have hb : backN j ks n = baseN + i := by simp only [backN, hp]
      rw [hb] at q1 ⊢
      obtain ⟨b1, b2⟩ := h2.base (baseN + i) (by omega) q1
      obtain ⟨e1, e2⟩ := into_ids (c := c) (pos_spec hp)
      simp only at b1 b2
      exact ⟨by rw [← b1, e1], by rw [← b2, e2]⟩
  have F5 : ∀ n, isNew c2 j ks n = true → n ∉ ks → c.live n = false ∧ n < baseN := by
    intro n hn hk
    obtain ⟨q1, q2⟩ := F2 n hn
    have q1' := q1
    rw [hl2] at q1'
    rcases okNames_spec hok q1' with hlt | ⟨hle, _⟩
    · rw [hout _ (by omega)] at q2
      have := hj _ q1' (by omega)
      rw [Option.some.inj q2] at this
      exact ⟨by rw [h.live, this.1]; rfl, this.2⟩
    · rw [hout' _ hle] at q2
      exact absurd (List.mem_of_getElem? q2) hk
  have hm : ∀ k n, outM j ks k = some n → c2.live k = true → (c.back c2 j ks).live n = true ∧ (c.back c2 j ks).ids n = c2.ids k ∧ (c.back c2 j ks).rv n = c2.rv k := by
    intro k n hmk hk
    obtain ⟨q1, q2⟩ := F3 k n hk hmk
    exact ⟨by simp only [Cx.back, q1, Bool.true_or], by simp only [Cx.back, q1, if_true, q2], by simp only [Cx.back, q1, if_true, q2]⟩
  have F6 : ∀ n, (c.back c2 j ks).live n = true → isNew c2 j ks n = true ∨ (isNew c2 j ks n = false ∧ c.live n = true ∧ n ∉ ks) := by
    intro n hn
    cases hi : isNew c2 j ks n with
    | true => exact .inl rfl
    | false =>
      simp only [Cx.back, hi, Bool.false_or, Bool.and_eq_true, Bool.not_eq_true'] at hn
      exact .inr ⟨rfl, hn.1, by simpa using hn.2⟩
  have idn : ∀ n, isNew c2 j ks n = true → (c.back c2 j ks).ids n = c2.ids (backN j ks n) ∧ (c.back c2 j ks).rv n = c2.rv (backN j ks n) := fun n hn => ⟨by simp only [Cx.back, hn, if_true], by simp only [Cx.back, hn, if_true]⟩
  have ido : ∀ n, isNew c2 j ks n = false → (c.back c2 j ks).ids n = c.ids n ∧ (c.back c2 j ks).rv n = c.rv n := fun n hn => ⟨by simp only [Cx.back, hn, Bool.false_eq_true, if_false], by simp only [Cx.back, hn, Bool.false_eq_true, if_false]⟩
  have hblk : ∀ b, (∃ k, (c.into ks).live k = true ∧ (c.into ks).ids k = some b) → ∃ k, k ∈ ks ∧ c.live k = true ∧ c.ids k = some b := by
    rintro b ⟨k, k1, k2⟩
    obtain ⟨q, q1, q2⟩ := into_live k1
    exact ⟨q, q1, by rw [h.live]; exact hall q q1, by rw [← q2]; exact k2⟩
  have hPX3 : ∀ b, PX X (c.back c2 j ks) b → PX (XIn X c ks) c2 b := by
    intro b hp
    rcases hp with hp | ⟨n, hn, hb⟩
    · exact .inl (.inl hp)
    · rcases F6 n hn with hi | ⟨hi, hl, hk⟩
      · rw [(idn n hi).1] at hb
        exact .inr ⟨_, (F2 n hi).1, hb⟩
      · rw [(ido n hi).1] at hb
        exact .inl (.inr ⟨n, hl, hk, hb⟩)
  have hPXo : ∀ b, b < w.heap.size → PX X (c.back c2 j ks) b → PX X c b := by
    intro b hlt hp
    rcases hp with hp | ⟨n, hn, hb⟩
    · exact .inl hp
    · rcases F6 n hn with hi | ⟨hi, hl, hk⟩
      · rw [(idn n hi).1] at hb
        rcases (h2.fresh _ b (F2 n hi).1 hb).1 with hge | hy
        · omega
        · obtain ⟨k, _, k2, k3⟩ := hblk b hy
          exact .inr ⟨k, k2, k3⟩
      · rw [(ido n hi).1] at hb
        exact .inr ⟨n, hl, hb⟩
  have hY : ∀ b, b < w.heap.size → (∃ k, (c.into ks).live k = true ∧ (c.into ks).ids k = some b) → PX X c b := by
    intro b _ hy
    obtain ⟨k, _, k2, k3⟩ := hblk b hy
    exact .inr ⟨k, k2, k3⟩
  have hgone : ∀ n, n ∈ goneK ob 0 ks → n ∈ ks := fun n hn => by
    obtain ⟨q, q1, _⟩ := goneK_mem.1 hn
    exact List.mem_of_getElem? q1
  have hstay : ∀ n, n ∈ ks → n ∉ goneK ob 0 ks → isNew c2 j ks n = true := by
    intro n hn hg
    cases hp : pos n ks with
    | none => exact absurd hn (pos_mem hp)
    | some i =>
      have hs : (ob.lookup (baseN + i)).isSome = true := by
        cases hq : (ob.lookup (baseN + i)).isSome with
        | true => rfl
        | false => exact absurd (goneK_mem.2 ⟨i, pos_spec hp, by rw [Nat.zero_add]; exact hq⟩) hg
      refine (F3 (baseN + i) n (by rw [hl2]; exact hs) ?_).1
      rw [hout' _ (by omega)]
      have e : baseN + i - baseN = i := by omega
      rw [e]; exact pos_spec hp
  have hle : Cx.le (some (c.drops (goneK ob 0 ks))) (some (c.back c2 j ks)) := by
    intro n hn
    simp only [Cx.drops, Bool.and_eq_true, Bool.not_eq_true'] at hn
    obtain ⟨hl, hg⟩ := hn
    have hg' : n ∉ goneK ob 0 ks := by simpa using hg
    by_cases hk : n ∈ ks
    · have hi := hstay n hk hg'
      obtain ⟨e1, e2⟩ := F4 n hi hk
      obtain ⟨i1, i2⟩ := idn n hi
      exact ⟨by simp only [Cx.back, hi, Bool.true_or], i1.trans e1, i2.trans e2⟩
    · cases hi : isNew c2 j ks n with
      | true => rw [(F5 n hi hk).1] at hl; cases hl
      | false =>
        obtain ⟨i1, i2⟩ := ido n hi
        refine ⟨?_, i1, i2⟩
        have : ks.contains n = false := by simpa using hk
        simp only [Cx.back, hi, hl, this, Bool.false_or, Bool.not_false, Bool.and_self]
  have r3 : ∀ (ds : List D) (vs : List Value), RdL (PX X c) w (some c) ds vs → RdL (PX X (c.back c2 j ks)) w' (some (c.back c2 j ks)) (forgetLs (goneK ob 0 ks) ds) vs :=
    fun ds vs hd => RdL.mono h2.ext hY hPXo _ hle (RdL.forgets _ hd)
  have hlk : ∀ n, St.lk ⟨forgetLs (goneK ob 0 ks) s.tm, putObs (outObs j ks ob) (dropObs (goneK ob 0 ks) s.ob)⟩ n = match (outObs j ks ob).lookup n with | some o => some o | none => if (goneK ob 0 ks).contains n = true then none else (s.lk n).map (Ob.forgets (goneK ob 0 ks)) := by
    intro n
    unfold St.lk
    simp only
    rw [lk_putObs, lk_dropObs]
  have hnew : ∀ n, isNew c2 j ks n = true → ∃ o, ob.lookup (backN j ks n) = some o ∧ (outObs j ks ob).lookup n = some (o.ren (outM j ks)) := by
    intro n hn
    obtain ⟨q1, q2⟩ := F2 n hn
    have q1' := q1
    rw [hl2] at q1'
    obtain ⟨o, ho⟩ := Option.isSome_iff_exists.1 q1'
    exact ⟨o, ho, outObs_get (fun k' hk' hm' => (F1 k' n (by rw [hl2]; exact hk') hm').symm) ho q2⟩
  have hold : ∀ n, isNew c2 j ks n = false → (outObs j ks ob).lookup n = none := by
    intro n hn
    cases hq : (outObs j ks ob).lookup n with
    | none => rfl
    | some o =>
      obtain ⟨k, o', k1, k2, _⟩ := outObs_some hq
      have := (F3 k n (by rw [hl2, k1]; rfl) k2).1
      rw [hn] at this; cases this
  have hwsz := h2.ext.size
  refine ⟨⟨fun n => ?_, r3 _ _ h.tm, fun n o hn => ?_, fun n n' b hn hn' hb hb' => ?_, fun n b hn hb => ?_, ?_, fun i => ?_, h.Xb, fun n hn => ?_, h.dfs, fun n hn hl => ?_⟩, ?_⟩
  · rw [hlk]
    cases hi : isNew c2 j ks n with
    | true =>
      obtain ⟨o, _, ho⟩ := hnew n hi
      rw [ho]
      simp only [Cx.back, hi, Bool.true_or, Option.isSome_some]
    | false =>
      rw [hold n hi]
      simp only [Cx.back, hi, Bool.false_or]
      by_cases hk : n ∈ ks
      · have hg : n ∈ goneK ob 0 ks := by
          refine Classical.byContradiction fun hg => ?_
          have := hstay n hk hg
          rw [hi] at this; cases this
        have e1 : ks.contains n = true := by simpa using hk
        have e2 : (goneK ob 0 ks).contains n = true := by simpa using hg
        rw [e1, e2]
        simp
      · have e1 : ks.contains n = false := by simpa using hk
        have e2 : (goneK ob 0 ks).contains n = false := by
          have : n ∉ goneK ob 0 ks := fun hg => hk (hgone n hg)
          simpa using this
        rw [e1, e2, h.live]
        cases s.lk n <;> rfl
  · rw [hlk] at hn
    cases hi : isNew c2 j ks n with
    | true =>
      obtain ⟨o', ho', hq⟩ := hnew n hi
      rw [hq] at hn
      cases hn
      have hob := h2.ob (backN j ks n) o' ho'
      obtain ⟨i1, i2⟩ := idn n hi
      cases o' with
      | box cs =>
        obtain ⟨b, arr, U, g1, g2, g3⟩ := hob
        exact ⟨b, arr, U, i1.trans g1, g2, renL_read (fun b _ hp => hPX3 b hp) (fun k n => hm k n) _ g3⟩
      | row sz es =>
        obtain ⟨vs, U, g1, g2, g3⟩ := hob
        refine ⟨vs, U, ?_, RdE.mono (Ext.refl (fun _ => False) w') (fun _ _ h => h.elim) (fun b _ hp => hPX3 b hp) _ g2, g3⟩
        rw [i1, i2]; exact g1
    | false =>
      rw [hold n hi] at hn
      simp only at hn
      split at hn
      · cases hn
      · rename_i hg
        cases hq : s.lk n with
        | none => rw [hq] at hn; cases hn
        | some q =>
          rw [hq] at hn
          simp at hn
          subst hn
          have hl : c.live n = true := by rw [h.live, hq]; rfl
          have hk : n ∉ ks := fun hk => by
            have := hstay n hk (by simpa using hg)
            rw [hi] at this; cases this
          have hob := h.ob n q hq
          obtain ⟨i1, i2⟩ := ido n hi
          have hne : ∀ b, c.ids n = some b → ¬ ∃ k, (c.into ks).live k = true ∧ (c.into ks).ids k = some b := by
            intro b hb hy
            obtain ⟨k, k1, k2, k3⟩ := hblk b hy
            exact hk (h.inj k n b k2 hl k3 hb ▸ k1)
          cases q with
          | box cs =>
            obtain ⟨b, arr, U, g1, g2, g3⟩ := hob
            exact ⟨b, arr, U, i1.trans g1, by rw [h2.ext.block b (Array.getElem?_eq_some_iff.1 g2).1 (hne b g1)]; exact g2, r3 _ _ g3⟩
          | row sz es =>
            obtain ⟨vs, U, g1, g2, g3⟩ := hob
            refine ⟨vs, U, ?_, RdE.mono h2.ext hY hPXo _ g2, g3⟩
            rw [i1, i2]
            exact g1.ext h2.ext hne
  · rcases F6 n hn with hi | ⟨hi, hl, hk⟩ <;> rcases F6 n' hn' with hi' | ⟨hi', hl', hk'⟩
    · rw [(idn n hi).1] at hb
      rw [(idn n' hi').1] at hb'
      obtain ⟨q1, q2⟩ := F2 n hi
      obtain ⟨q1', q2'⟩ := F2 n' hi'
      have := h2.inj _ _ b q1 q1' hb hb'
      rw [this, q2'] at q2
      exact (Option.some.inj q2).symm
    · rw [(idn n hi).1] at hb
      rw [(ido n' hi').1] at hb'
      exact absurd (.inr ⟨n', hl', hk', hb'⟩) (h2.fresh _ b (F2 n hi).1 hb).2
    · rw [(ido n hi).1] at hb
      rw [(idn n' hi').1] at hb'
      exact absurd (.inr ⟨n, hl, hk, hb⟩) (h2.fresh _ b (F2 n' hi').1 hb').2
    · rw [(ido n hi).1] at hb
      rw [(ido n' hi').1] at hb'
      exact h.inj n n' b hl hl' hb hb'
  · rcases F6 n hn with hi | ⟨hi, hl, hk⟩
    · rw [(idn n hi).1] at hb
      obtain ⟨q1, q2⟩ := h2.fresh _ b (F2 n hi).1 hb
      refine ⟨?_, fun hx => q2 (.inl hx)⟩
      rcases q1 with q1 | q1
      · have := h.ext.size
        exact .inl (by omega)
      · obtain ⟨k, _, k2, k3⟩ := hblk b q1
        exact (h.fresh k b k2 k3).1
    · rw [(ido n hi).1] at hb
      exact h.fresh n b hl hb
  · refine h.ext.trans' h2.ext fun b hb hlt => ?_
    obtain ⟨k, _, k2, k3⟩ := hblk b hb
    exact (h.fresh k b k2 k3).1
  · exact Rd.mono h2.ext hY hPXo _ (c := none) (c' := none) trivial (h.gl i)
  · rcases F6 n hn with hi | ⟨hi, hl, hk⟩
    · rw [(idn n hi).2]; exact h2.rv1 _ (F2 n hi).1
    · rw [(ido n hi).2]; exact h.rv1 n hl
  · rcases F6 n hl with hi | ⟨hi, hl, hk⟩
    · by_cases hk : n ∈ ks
      · obtain ⟨e1, e2⟩ := F4 n hi hk
        rw [(idn n hi).1, (idn n hi).2, e1, e2]
        exact h.base n hn (by rw [h.live]; exact hall n hk)
      · have := (F5 n hi hk).2; omega
    · rw [(ido n hi).1, (ido n hi).2]
      exact h.base n hn hl
  · have htm := h2.tm
    simp only [RdL] at htm
    obtain ⟨v', r, e1, e2, _⟩ := htm
    simp at e1
    obtain ⟨rfl, _⟩ := e1
    exact ren_read (fun b _ hp => hPX3 b hp) (fun k n => hm k n) _ e2

mutual
/-- Where all its rows are let go. -/
theorem Sat.out' (h : Sat T X Y w0 c s a w) {ks : List Nat} : ∀ (d : D) {v : Value}, (∀ k ∈ d.rows, k ∈ ks) → Rd (PX X c) w (some c) d v → (d.out s.lk).clos = true → Rd (PX X (c.drops ks)) w none (d.out s.lk) v
  | .int _ _, v, _, hr, _ => by simpa only [D.out, Rd] using hr
  | .bool _, v, _, hr, _ => by simpa only [D.out, Rd] using hr
  | .str _, v, _, hr, _ => by simpa only [D.out, Rd] using hr
  | .nilp, v, _, hr, _ => by simpa only [D.out, Rd] using hr
  | .nl sz, v, _, hr, _ => by simp only [D.out, Rd] at hr ⊢; exact .inl ⟨⟨none, hr⟩, trivial⟩
  | .any, v, _, _, _ => by simp only [D.out, Rd]
  | .fz sz es, v, _, hr, _ => by
    simp only [D.out]
    have := Rd.mono (Ext.refl (fun _ => False) w) (fun _ _ h => h.elim) (fun b _ hp => Sat.drops_px c ks b hp) (.fz sz es) (c := some c) (c' := some c) (Cx.le_refl _) hr
    simpa only [Rd] using this
  | .ad sz es i o, v, _, hr, _ => by
    simp only [D.out]
    have := Rd.mono (Ext.refl (fun _ => False) w) (fun _ _ h => h.elim) (fun b _ hp => Sat.drops_px c ks b hp) (.ad sz es i o) (c := some c) (c' := some c) (Cx.le_refl _) hr
    simpa only [Rd] using this
  | .agg cs, v, hn, hr, hc => by
    simp only [D.out, Rd, D.rows, D.clos] at hn hr hc ⊢
    obtain ⟨vs, h1, h2⟩ := hr
    exact ⟨vs, h1, Sat.outs' h cs hn h2 hc⟩
  | .tup cs, v, hn, hr, hc => by
    simp only [D.out, Rd, D.rows, D.clos] at hn hr hc ⊢
    obtain ⟨vs, h1, h2⟩ := hr
    exact ⟨vs, h1, Sat.outs' h cs hn h2 hc⟩
  | .clo f cs, v, hn, hr, hc => by
    simp only [D.out, Rd, D.rows, D.clos] at hn hr hc ⊢
    obtain ⟨vs, h1, h2⟩ := hr
    exact ⟨vs, h1, Sat.outs' h cs hn h2 hc⟩
  | .own k o, v, _, _, hc => by simp [D.out, D.clos] at hc
  | .elr k sz i o, v, _, _, hc => by simp [D.out, D.clos] at hc
  | .wh g d, v, _, _, hc => by simp [D.out, D.clos] at hc
  | .row k, v, hn, hr, hc => by
    simp only [D.out] at hc ⊢
    simp only [D.rows, List.mem_singleton, forall_eq] at hn
    split at hc
    · rename_i sz es hk
      simp only [Rd] at hr
      rw [hr.2]
      refine h.row_open (fun b _ hp => Sat.drops_px c ks b hp) (fun b hb hp => ?_) hk
      rcases hp with hp | ⟨j, hj, hjb⟩
      · exact (h.fresh k b hr.1 hb).2 hp
      · simp only [Cx.drops, Bool.and_eq_true, Bool.not_eq_true'] at hj
        have := h.inj j k b hj.1 hr.1 hjb hb
        subst this
        have h1 : ks.contains j = true := by simpa using hn
        rw [h1] at hj; exact absurd hj.2 (by simp)
    · simp [D.clos] at hc
theorem Sat.outs' (h : Sat T X Y w0 c s a w) {ks : List Nat} : ∀ (ds : List D) {vs : List Value}, (∀ k ∈ rowsL ds, k ∈ ks) → RdL (PX X c) w (some c) ds vs → closL (outL s.lk ds) = true → RdL (PX X (c.drops ks)) w none (outL s.lk ds) vs
  | [], _, _, hr, _ => by simpa only [outL, RdL] using hr
  | d :: ds, _, hn, hr, hc => by
    simp only [outL, RdL, rowsL, closL, Bool.and_eq_true, List.mem_append] at hn hr hc ⊢
    obtain ⟨v, r, h1, h2, h3⟩ := hr
    exact ⟨v, r, h1, Sat.out' h d (fun k hk => hn k (.inl hk)) h2 hc.1, Sat.outs' h ds (fun k hk => hn k (.inr hk)) h3 hc.2⟩
end
end
end Go.Vcg

namespace Go.Vcg

def cOper (P : Program) (kf : Nat → Nat) (ops : Array Oper) (o : Oper) : Option IOper :=
  match guardSlot ops o.guard with
  | some g => some ⟨o.dst, g, cOpT P kf o.op o.type⟩
  | none => none

section
variable {P : Program} {kf : Nat → Nat} {T : Tb} {X : Nat → Prop} {Y : Env} {w0 w : World} {c : Cx} {s : St} {a : Act}

/-- What an operation that is carried out does. -/
def ActOK (P : Program) (T : Tb) (X : Nat → Prop) (Y : Env) (w0 : World) (c : Cx) (s : St) (a : Act) (w : World) (o : Oper) : Eff → Prop
  | .val d => Yld P X c a w o d
  | .new ob ptr => ∀ k, o.dst = some k → s.lk k = none → k < baseN → ∃ v w' c', (execOp a.eval o).run P w = .ok (.value v) w' ∧ Sat T X Y w0 c' ((St.mk s.tm (obPut k ob s.ob)).set (some k) (if ptr then .own k 0 else .row k)) (a.put o.dst v) w'
  | .put k ob => o.dst = none → ∃ w', (execOp a.eval o).run P w = .ok .skip w' ∧ Sat T X Y w0 c { s with ob := obPut k ob s.ob } (a.put o.dst undef) w'
  | .mv none ob => ∀ j, o.dst = some j → s.lk j = none → j < baseN → ∃ v w' c', (execOp a.eval o).run P w = .ok (.value v) w' ∧ Sat T X Y w0 c' ((St.mk s.tm (obPut j ob s.ob)).set (some j) (.row j)) (a.put o.dst v) w'
  | .mv (some k) ob => ∀ j, o.dst = some j → (s.lk j = none ∨ j = k) → j < baseN → ∃ v w' c', (execOp a.eval o).run P w = .ok (.value v) w' ∧ Sat T X Y w0 c' ((St.mk (forgetL k s.tm) (obPut j ob (forgetO k (obDel k s.ob)))).set (some j) (.row j)) (a.put o.dst v) w'
  | .frz _ _ => True
  | .cal _ _ _ => True

theorem gus_mem : ∀ {l : List Opd}, gus T s l → ∀ x ∈ l, (x.ev T s).gu = true
  | [], _, x, hx => by simp at hx
  | y :: r, h, x, hx => by
    simp only [gus] at h
    rcases List.mem_cons.1 hx with rfl | hx
    · exact h.1
    · exact gus_mem h.2 x hx

/-- An effect that yields a datum alone. -/
theorem ActOK.val_of {o : Oper} {r : Option (Prop × Eff)} {φ : Prop} {e : Eff} (hr : r = some (φ, e)) (hv : ∀ φ e, r = some (φ, e) → ∃ d, e = .val d) (hy : ∀ d, r = some (φ, .val d) → Yld P X c a w o d) : ActOK P T X Y w0 c s a w o e := by
  obtain ⟨d, rfl⟩ := hv φ e hr
  exact hy d hr

theorem act_val {ip : IOp} {ev : Opd → D} {lk : Nat → Option Ob} (hip : (match ip with | .alloc _ | .box _ | .bslice .. | .store .. | .append .. | .pick .. | .call .. | .emp .. | .mks .. | .callx .. => false | _ => true) = true) : ∀ φ e, act T ip ev lk = some (φ, e) → ∃ d, e = .val d := by
  intro φ e h
  cases ip <;> simp only [act] at h hip <;> (first | (cases hip; done) | skip) <;> (repeat' (split at h)) <;> (first | (cases h; done) | (simp only [Option.map_eq_some_iff] at h; obtain ⟨r, _, h⟩ := h; cases h; exact ⟨_, rfl⟩) | (cases h; exact ⟨_, rfl⟩))

theorem act_ok (h : Sat T X Y w0 c s a w) {o : Oper} {ip : IOp} (hc : cOp P kf o.op o.type = some ip) {φ : Prop} {e : Eff} (hact : act T ip (fun x => (x.ev T s).un) s.lk = some (φ, e)) (hφ : φ) (hg : gus T s ip.opds) : ActOK P T X Y w0 c s a w o e := by
  cases hop : o.op <;> rw [hop] at hc <;> simp only [cOp] at hc
  case move x =>
    simp only [Option.map_eq_some_iff] at hc
    obtain ⟨y, hy, rfl⟩ := hc
    simp only [act, Option.some.injEq, Prod.mk.injEq] at hact
    obtain ⟨_, rfl⟩ := hact
    simp only [IOp.opds, gus] at hg
    exact snd_mov h (.inl hop) hy hg.1
  case assign x =>
    simp only [Option.map_eq_some_iff] at hc
    obtain ⟨y, hy, rfl⟩ := hc
    simp only [act, Option.some.injEq, Prod.mk.injEq] at hact
    obtain ⟨_, rfl⟩ := hact
    simp only [IOp.opds, gus] at hg
    exact snd_mov h (.inr hop) hy hg.1
  case pick x y z =>
    split at hc <;> cases hc
    simp [act] at hact
  case alloc U =>
    simp only [Option.map_eq_some_iff] at hc
    obtain ⟨cs, hz, rfl⟩ := hc
    simp only [act, Option.some.injEq, Prod.mk.injEq] at hact
    obtain ⟨_, rfl⟩ := hact
    intro k hd hk hkb
    exact snd_alloc h hop hz hd hk hkb
  case box U x =>
    simp only [Option.map_eq_some_iff] at hc
    obtain ⟨y, hy, rfl⟩ := hc
    simp only [act, Option.some.injEq, Prod.mk.injEq] at hact
    obtain ⟨rfl, rfl⟩ := hact
    simp only [IOp.opds, gus] at hg
    intro k hd hk hkb
    exact snd_box h hop hy hg.1 hφ hd hk hkb
  case build U parts =>
    split at hc
    · rename_i fs z ps hu hz hp
      split at hc
      · rename_i hfs
        cases hc
        refine ActOK.val_of hact (act_val rfl) fun d hd => snd_build h hop hu hfs hz hp ?_ hd hφ
        simpa [IOp.opds] using hg
      · cases hc
    · cases hc
  case buildSlice U n parts =>
    split at hc
    · rename_i e hu
      split at hc
      · rename_i z sz ps hz hsz hp
        split at hc
        · rename_i hcond
          cases hc
          simp only [act] at hact
          split at hact
          · rename_i ψ es hf
            simp only [Option.some.injEq, Prod.mk.injEq] at hact
            obtain ⟨rfl, rfl⟩ := hact
            intro k hd hk hkb
            exact snd_bslice h hop hu hz hsz hp hcond.1 hcond.2.1 hcond.2.2.1 hcond.2.2.2 (by simpa [IOp.opds] using hg) hf hφ hd hk hkb
          · cases hact
        · cases hc
      · cases hc
    · cases hc
  case load U x =>
    split at hc
    · rename_i ag n y ha hn hy
      cases hc
      simp only [IOp.opds, gus] at hg
      exact ActOK.val_of hact (act_val rfl) fun d hd => snd_load h hop ha hn hy hg.1 hd hφ
    · cases hc
  case store U x v =>
    split at hc
    · rename_i n y z hn hy hz
      cases hc
      simp only [IOp.opds, gus] at hg
      have hp : ∃ k ob, e = .put k ob := by
        simp only [act] at hact
        (repeat' (split at hact)) <;> first | (cases hact; done) | (cases hact; exact ⟨_, _, rfl⟩)
      obtain ⟨k, ob, rfl⟩ := hp
      intro hd
      exact snd_store h hop hn hy hz hg.1 hg.2.1 hd hact hφ
    · cases hc
  case nilCheck x =>
    simp only [Option.map_eq_some_iff] at hc
    obtain ⟨y, hy, rfl⟩ := hc
    simp only [IOp.opds, gus] at hg
    exact ActOK.val_of hact (act_val rfl) fun d hd => snd_nilc h hop hy hg.1 hd hφ
  case binOp op U x y U' =>
    split at hc
    · rename_i x' y' hx hy
      split at hc
      · cases hc
        simp only [IOp.opds, gus] at hg
        exact ActOK.val_of hact (act_val rfl) fun d hd => snd_bin h hop hx hy hg.1 hg.2.1 hd hφ
      · rename_i hu
        split at hc <;> cases hc
        · simp only [IOp.opds, gus] at hg
          exact ActOK.val_of hact (act_val rfl) fun d hd => snd_eqb h hu (neg := false) hop hx hy hg.1 hg.2.1 hd
        · simp only [IOp.opds, gus] at hg
          exact ActOK.val_of hact (act_val rfl) fun d hd => snd_eqb h hu (neg := true) hop hx hy hg.1 hg.2.1 hd
      · rename_i fs hu
        have hag : aggT P U = some true := by simp [aggT, hu]
        split at hc
        · split at hc
          · rename_i hq
            simp only [Option.map_eq_some_iff] at hc
            obtain ⟨ks, hk, rfl⟩ := hc
            simp only [IOp.opds, gus] at hg
            exact ActOK.val_of hact (act_val rfl) fun d hd => snd_eqa h hag hq hk (neg := false) hop hx hy hg.1 hg.2.1 hd
          · cases hc
        · split at hc
          · rename_i hq
            simp only [Option.map_eq_some_iff] at hc
            obtain ⟨ks, hk, rfl⟩ := hc
            simp only [IOp.opds, gus] at hg
            exact ActOK.val_of hact (act_val rfl) fun d hd => snd_eqa h hag hq hk (neg := true) hop hx hy hg.1 hg.2.1 hd
          · cases hc
        · cases hc
      · rename_i hu
        split at hc <;> cases hc
        · simp only [IOp.opds, gus] at hg
          exact ActOK.val_of hact (act_val rfl) fun d hd => snd_eqs h hu (neg := false) hop hx hy hg.1 hg.2.1 hd
        · simp only [IOp.opds, gus] at hg
          exact ActOK.val_of hact (act_val rfl) fun d hd => snd_eqs h hu (neg := true) hop hx hy hg.1 hg.2.1 hd
        · simp only [IOp.opds, gus] at hg
          exact ActOK.val_of hact (act_val rfl) fun d hd => snd_sadd h hop hx hy hg.1 hg.2.1 hd hφ
      · cases hc
    · cases hc
  case unOp op U x =>
    simp only [Option.map_eq_some_iff] at hc
    obtain ⟨y, hy, rfl⟩ := hc
    simp only [IOp.opds, gus] at hg
    exact ActOK.val_of hact (act_val rfl) fun d hd => snd_un h hop hy hg.1 hd hφ
  case convert U V x =>
    split at hc
    · rename_i y hU hV hy
      cases hc
      simp only [IOp.opds, gus] at hg
      exact ActOK.val_of hact (act_val rfl) fun d hd => snd_convw h hop hU hV hy hg.1 hd
    · rename_i k0 k y hU hV hy
      cases hc
      simp only [IOp.opds, gus] at hg
      exact ActOK.val_of hact (act_val rfl) fun d hd => snd_conv h hop ⟨_, hU⟩ hV hy hg.1 hd hφ
    · rename_i e y hU hV hy
      split at hc
      · rename_i he
        cases hc
        simp only [IOp.opds, gus] at hg
        exact ActOK.val_of hact (act_val rfl) fun d hd => snd_bts h hop hU he hV hy hg.1 hd hφ
      · cases hc
    · cases hc
  case makeSlice U l m =>
    split at hc
    · rename_i e hu
      split at hc
      · rename_i i z x' y' hi hz hx hy
        split at hc
        · rename_i hcond
          cases hc
          simp only [IOp.opds, gus] at hg
          simp only [act] at hact
          split at hact
          · rename_i n1 n2 hk1 hk2
            simp only [Option.some.injEq, Prod.mk.injEq] at hact
            obtain ⟨rfl, rfl⟩ := hact
            obtain ⟨q1, q2, q3, q4⟩ := hφ
            intro k hd hk hkb
            exact snd_mks h hop hu hi hz hx hy hcond.1 hcond.2 hg.1 hg.2.1 hk1 hk2 q1 q2 q3 q4 hd hk hkb
          · cases hact
        · cases hc
      · cases hc
    · cases hc
  case fieldAddr U x i =>
    split at hc
    · rename_i f hf
      split at hc
      · rename_i n y hn hy
        split at hc
        · rename_i h0
          cases hc
          simp only [IOp.opds, gus] at hg
          exact ActOK.val_of hact (act_val rfl) fun d hd => snd_faddr h hop hf hn h0 hy hg.1 hd hφ
        · cases hc
      · cases hc
    · cases hc
  case field U x i =>
    split at hc
    · rename_i f hf
      split at hc
      · rename_i ag n y ha hn hy
        cases hc
        simp only [IOp.opds, gus] at hg
        exact ActOK.val_of hact (act_val rfl) fun d hd => snd_field h hop hf ha hn hy hg.1 hd hφ
      · cases hc
    · cases hc
  case indexAddr U x i =>
    split at hc
    · rename_i e' hu
      split at hc
      · rename_i n y j hn hy hj
        cases hc
        simp only [IOp.opds, gus] at hg
        exact ActOK.val_of hact (act_val rfl) fun d hd => snd_iaddr h hop hu hn hy hj hg.1 hg.2.1 hd hφ
      · cases hc
    · rename_i m e' hu
      split at hc
      · rename_i n y j hn hy hj
        cases hc
        simp only [IOp.opds, gus] at hg
        exact ActOK.val_of hact (act_val rfl) fun d hd => snd_iarr h hop hu hn hy hj hg.1 hg.2.1 hd hφ
      · cases hc
    · cases hc
  case slice U x lo hi mx =>
    split at hc
    · rename_i e' hu
      cases mx with
      | some m0 =>
        simp only at hc
        split at hc
        · rename_i n y h' m' hn hy hl hh hm
          have hlo : lo = none := by cases lo <;> simp at hl <;> rfl
          subst hlo
          cases hi with
          | none => simp at hh
          | some hi0 =>
          simp only [Option.map_some, Option.some.injEq] at hh
          split at hc
          · cases hc
            simp only [IOp.opds, gus] at hg
            simp only [act] at hact
            split at hact
            · rename_i hk
              cases hact
              intro k hd hk' hkb
              exact snd_emp h hop hu hn hy hh hm hg.1 (.inl ⟨_, _, hk⟩) hd hk' hkb
            · rename_i hk
              cases hact
              intro k hd hk' hkb
              exact snd_emp h hop hu hn hy hh hm hg.1 (.inr ⟨_, hk⟩) hd hk' hkb
            · cases hact
          · cases hc
            exact ActOK.val_of hact (act_val rfl) fun d hd => snd_slc3 h hop hu hn hy (l := none) rfl hh hm (by simpa [IOp.opds] using hg) hd hφ
        · rename_i n y l' h' m' hn hy hl hh hm
          cases hc
          cases hi with
          | none => simp at hh
          | some hi0 =>
          simp only [Option.map_some, Option.some.injEq] at hh
          exact ActOK.val_of hact (act_val rfl) fun d hd => snd_slc3 h hop hu hn hy (l := some l') (by simpa using hl) hh hm (by simpa [IOp.opds] using hg) hd hφ
        · cases hc
      | none =>
        simp only at hc
        split at hc
        · rename_i n y hn hy hl hh
          cases hc
          exact ActOK.val_of hact (act_val rfl) fun d hd => snd_slc h hop hu hn hy (by simpa using hl) (by simpa using hh) (by simpa [IOp.opds] using hg) hd hφ
        · rename_i n y l hn hy hl hh
          cases hc
          exact ActOK.val_of hact (act_val rfl) fun d hd => snd_slc h hop hu hn hy (by simpa using hl) (by simpa using hh) (by simpa [IOp.opds] using hg) hd hφ
        · rename_i n y l hn hy hl hh
          cases hc
          exact ActOK.val_of hact (act_val rfl) fun d hd => snd_slc h hop hu hn hy (by simpa using hl) (by simpa using hh) (by simpa [IOp.opds] using hg) hd hφ
        · rename_i n y l m hn hy hl hh
          cases hc
          exact ActOK.val_of hact (act_val rfl) fun d hd => snd_slc h hop hu hn hy (by simpa using hl) (by simpa using hh) (by simpa [IOp.opds] using hg) hd hφ
        · cases hc
    · cases hc
  case extract x i =>
    simp only [Option.map_eq_some_iff] at hc
    obtain ⟨y, hy, rfl⟩ := hc
    simp only [IOp.opds, gus] at hg
    exact ActOK.val_of hact (act_val rfl) fun d hd => snd_ext h hop hy hg.1 hd hφ
  case call cl =>
    obtain ⟨callee, args, argTypes⟩ := cl
    unfold cCall at hc
    split at hc
    · split at hc
      · simp only [Option.map_eq_some_iff] at hc
        obtain ⟨ys, _, rfl⟩ := hc
        simp [act] at hact
      · simp only [Option.map_eq_some_iff] at hc
        obtain ⟨ys, _, rfl⟩ := hc
        simp only [act] at hact
        repeat' (split at hact)
        all_goals first | (cases hact; done) | skip
        · cases hact; trivial
        · simp only [hcall, Option.some.injEq, Prod.mk.injEq] at hact
          obtain ⟨_, rfl⟩ := hact
          trivial
    · rename_i b hb
      simp only at hb hc
      subst hb
      unfold cBuiltin at hc
      split at hc
      · rename_i x t ha ht
        obtain rfl : args = #[x] := by cases args; simp_all
        obtain rfl : argTypes = #[t] := by cases argTypes; simp_all
        split at hc
        · rename_i e' hu
          simp only [Option.map_eq_some_iff] at hc
          obtain ⟨y, hy, rfl⟩ := hc
          simp only [IOp.opds, gus] at hg
          exact ActOK.val_of hact (act_val rfl) fun d hd => snd_len h hop hu hy hg.1 hd
        · rename_i hu
          simp only [Option.map_eq_some_iff] at hc
          obtain ⟨y, hy, rfl⟩ := hc
          simp only [IOp.opds, gus] at hg
          exact ActOK.val_of hact (act_val rfl) fun d hd => snd_lens h hop hu hy hg.1 hd
        · cases hc
      · rename_i x y t u ha ht
        obtain rfl : args = #[x, y] := by cases args; simp_all
        obtain rfl : argTypes = #[t, u] := by cases argTypes; simp_all
        split at hc
        · rename_i htu
          subst htu
          split at hc
          · rename_i e' hu
            split at hc
            · rename_i i z x' y' hi hz hx hy
              split at hc
              · rename_i hcond
                cases hc
                simp only [IOp.opds, gus] at hg
                have key : ∀ j, o.dst = some j → ∀ ns, newsOf i.size s.lk (y'.ev T s).un = some ns → _ := fun j hd ns hn => snd_append h hop hu hi hz hx hy hcond.1 hcond.2 hg.1 hg.2.1 hd hn
                simp only [act] at hact
                split at hact
                · rename_i k ns hk hn
                  split at hact
                  · rename_i sz' es hlk
                    simp only [Option.some.injEq, Prod.mk.injEq] at hact
                    obtain ⟨rfl, rfl⟩ := hact
                    obtain ⟨h1, h2, h3, h4⟩ := hφ
                    intro j hd hj hjb
                    exact (key j hd ns hn).1 k sz' es hk hlk h1 h2 h3 h4 hj hjb
                  · cases hact
                · rename_i z0 ns hk hn
                  simp only [Option.some.injEq, Prod.mk.injEq] at hact
                  obtain ⟨rfl, rfl⟩ := hact
                  intro j hd hj hjb
                  exact (key j hd ns hn).2 z0 hk hφ.1 hφ.2 hj hjb
                · cases hact
              · cases hc
            · cases hc
          · cases hc
        · cases hc
      · rename_i x y t u ha ht
        obtain rfl : args = #[x, y] := by cases args; simp_all
        obtain rfl : argTypes = #[t, u] := by cases argTypes; simp_all
        split at hc
        · rename_i x' y' hx hy
          cases hc
          simp only [IOp.opds, gus] at hg
          exact ActOK.val_of hact (act_val rfl) fun d hd => snd_mm h (mx := true) hop hx hy hg.1 hg.2.1 hd
        · cases hc
      · rename_i x y t u ha ht
        obtain rfl : args = #[x, y] := by cases args; simp_all
        obtain rfl : argTypes = #[t, u] := by cases argTypes; simp_all
        split at hc
        · rename_i x' y' hx hy
          cases hc
          simp only [IOp.opds, gus] at hg
          exact ActOK.val_of hact (act_val rfl) fun d hd => snd_mm h (mx := false) hop hx hy hg.1 hg.2.1 hd
        · cases hc
      · cases hc
    · cases hc
  all_goals cases hc
end
end Go.Vcg

namespace Go.Vcg
section
variable {P : Program} {kf : Nat → Nat} {T : Tb} {X : Nat → Prop} {Y : Env} {w0 w : World} {c : Cx} {s : St} {a : Act}

theorem cOper_spec {ops : Array Oper} {o : Oper} {io : IOper} (h : cOper P kf ops o = some io) : io.dst = o.dst ∧ guardSlot ops o.guard = some io.guard ∧ (cOp P kf o.op o.type = some io.op ∨ io.op = .bad) := by
  unfold cOper at h
  split at h
  · cases h
    refine ⟨rfl, ‹_›, ?_⟩
    simp only [cOpT]
    cases cOp P kf o.op o.type with
    | none => exact .inr rfl
    | some x => exact .inl rfl
  · cases h

theorem cCall_call {cl : Call} {k : Nat} {ys : List Opd} (h : cCall P kf cl = some (.call k ys)) : ∃ f, kf f = k ∧ cl.callee = .value (.func f) ∧ cArgs P cl.argTypes.toList cl.args.toList = some ys := by
  unfold cCall at h
  split at h
  · rename_i g hg
    split at h
    · simp only [Option.map_eq_some_iff] at h
      obtain ⟨zs, hz, h⟩ := h
      cases h
      exact ⟨g, rfl, hg, hz⟩
    · simp only [Option.map_eq_some_iff] at h
      obtain ⟨zs, hz, h⟩ := h
      cases h
  · unfold cBuiltin at h
    (repeat' (split at h)) <;> (first | (cases h; done) | (simp only [Option.map_eq_some_iff] at h; obtain ⟨_, _, h⟩ := h; cases h))
  · cases h

theorem cOp_call {op : Op} {U : TypeId} {k : Nat} {ys : List Opd} (h : cOp P kf op U = some (.call k ys)) : ∃ f args argTypes, kf f = k ∧ op = .call { callee := .value (.func f), args, argTypes } ∧ cArgs P argTypes.toList args.toList = some ys := by
  cases op <;> simp only [cOp] at h
  case call cl =>
    obtain ⟨f, h0, h1, h2⟩ := cCall_call h
    obtain ⟨callee, args, argTypes⟩ := cl
    simp only at h1 h2
    subst h1
    exact ⟨f, args, argTypes, h0, rfl, h2⟩
  all_goals (repeat' (split at h)) <;> (first | (cases h; done) | (simp only [Option.map_eq_some_iff] at h; obtain ⟨_, _, h⟩ := h; cases h))

theorem cCall_callx {cl : Call} {k : Nat} {ys : List Opd} (h : cCall P kf cl = some (.callx k ys)) : ∃ f, kf f = k ∧ cl.callee = .value (.func f) ∧ cArgs P cl.argTypes.toList cl.args.toList = some ys := by
  unfold cCall at h
  split at h
  · rename_i g hg
    split at h
    · simp only [Option.map_eq_some_iff] at h
      obtain ⟨zs, hz, h⟩ := h
      cases h
    · simp only [Option.map_eq_some_iff] at h
      obtain ⟨zs, hz, h⟩ := h
      cases h
      exact ⟨g, rfl, hg, hz⟩
  · unfold cBuiltin at h
    (repeat' (split at h)) <;> (first | (cases h; done) | (simp only [Option.map_eq_some_iff] at h; obtain ⟨_, _, h⟩ := h; cases h))
  · cases h

theorem cOp_callx {op : Op} {U : TypeId} {k : Nat} {ys : List Opd} (h : cOp P kf op U = some (.callx k ys)) : ∃ f args argTypes, kf f = k ∧ op = .call { callee := .value (.func f), args, argTypes } ∧ cArgs P argTypes.toList args.toList = some ys := by
  cases op <;> simp only [cOp] at h
  case call cl =>
    obtain ⟨f, h0, h1, h2⟩ := cCall_callx h
    obtain ⟨callee, args, argTypes⟩ := cl
    simp only at h1 h2
    subst h1
    exact ⟨f, args, argTypes, h0, rfl, h2⟩
  all_goals (repeat' (split at h)) <;> (first | (cases h; done) | (simp only [Option.map_eq_some_iff] at h; obtain ⟨_, _, h⟩ := h; cases h))

theorem act_frz {op : IOp} {ev : Opd → D} {lk : Nat → Option Ob} {φ : Prop} {ks : List Nat} {d : D} (h : act T op ev lk = some (φ, .frz ks d)) : ∃ f as sp, op = .callx f as ∧ T.sp f = some sp ∧ sp.hx = none ∧
    φ = (sp.pre (outL lk (as.map ev)) ∧ closL (outL lk (as.map ev)) = true) ∧ ks = rowsL (as.map ev) ∧ d = sp.F (outL lk (as.map ev)) := by
  cases op <;> simp only [act] at h
  case callx f as =>
    split at h
    · cases h
    · rename_i sp hsp
      split at h
      · split at h
        · rename_i hx
          simp only [Option.some.injEq, Prod.mk.injEq, Eff.frz.injEq] at h
          exact ⟨f, as, sp, rfl, hsp, hx, h.1.symm, h.2.1.symm, h.2.2.symm⟩
        · simp only [hcall, Option.some.injEq, Prod.mk.injEq, reduceCtorEq, and_false] at h
      · cases h
  all_goals (repeat' (split at h)) <;> (first | (cases h; done) | (simp only [Option.map_eq_some_iff] at h; obtain ⟨r, _, h⟩ := h; cases h))

theorem act_cal {op : IOp} {ev : Opd → D} {lk : Nat → Option Ob} {φ : Prop} {ks : List Nat} {d : D} {ob : List (Nat × Ob)} (h : act T op ev lk = some (φ, .cal ks d ob)) : ∃ f as sp hs, op = .callx f as ∧ T.sp f = some sp ∧ sp.hx = some hs ∧
    φ = (hs.pre (renL (inM ks) (as.map ev)) (inObs lk ks 0 ks) ∧ apartN ks = true ∧ (ks.all fun k => (lk k).isSome) = true ∧ okNames ks.length ob = true) ∧ d = (hs.F (renL (inM ks) (as.map ev)) (inObs lk ks 0 ks)).1 ∧ ob = (hs.F (renL (inM ks) (as.map ev)) (inObs lk ks 0 ks)).2 := by
  cases op <;> simp only [act] at h
  case callx f as =>
    split at h
    · cases h
    · rename_i sp hsp
      split at h
      · split at h
        · simp only [Option.some.injEq, Prod.mk.injEq, reduceCtorEq, and_false] at h
        · rename_i hs hx
          simp only [hcall, Option.some.injEq, Prod.mk.injEq, Eff.cal.injEq] at h
          obtain ⟨h1, h2, h3, h4⟩ := h
          rw [h2] at h1 h3 h4
          refine ⟨f, as, sp, hs, rfl, hsp, hx, ?_, h3.symm, h4.symm⟩
          rw [← h1, h4]
      · cases h
  all_goals (repeat' (split at h)) <;> (first | (cases h; done) | (simp only [Option.map_eq_some_iff] at h; obtain ⟨r, _, h⟩ := h; cases h))

/-- A call whose rows stay as they are. -/
theorem snd_callf (hT : TbOK P kf T) (h : Sat T X Y w0 c s a w) {o : Oper} {f : Nat} {args : Array Operand} {argTypes : Array TypeId} {ys : List Opd} {sp : Sp} (ho : o.op = .call { callee := .value (.func f), args, argTypes }) (hc : cArgs P argTypes.toList args.toList = some ys) (hg : gus T s ys) (hsp : T.sp (kf f) = some sp) (hhx : sp.hx = none)
    (hpre : sp.pre (outL s.lk (ys.map fun x => (x.ev T s).un))) (hcl : closL (outL s.lk (ys.map fun x => (x.ev T s).un)) = true)
    {K : Act → World → Prop} {Q : Exit → Act → World → Prop} (hK : ∀ v w', Sat T X Y w0 (c.drops (rowsL (ys.map fun x => (x.ev T s).un))) (s.frz (rowsL (ys.map fun x => (x.ev T s).un))) a w' → Rd (PX X (c.drops (rowsL (ys.map fun x => (x.ev T s).un)))) w' (some (c.drops (rowsL (ys.map fun x => (x.ev T s).un)))) (sp.F (outL s.lk (ys.map fun x => (x.ev T s).un))) v → K (a.put o.dst v) w') : o.wp P a w K Q := by
  have hrd := cArgs_read h hc hg
  have hrun : (execOp a.eval o).run P w = .ok (.enter f (args.map a.eval)) w := by
    simp only [execOp, ho, resolve, Act.eval, Deferred.ofValue, Sem.run_bind, Sem.run_pure, Result.andThen_ok, invoke]
    simpa using (hT f sp hsp).2 (args.map a.eval) w
  unfold Oper.wp
  rw [hrun, Oper.upon_enter]
  generalize hds : (ys.map fun x => (x.ev T s).un) = ds at *
  have h' := h.frz (rowsL ds)
  have hargs : RdL (PX X (c.drops (rowsL ds))) w none (outL s.lk ds) (args.map a.eval).toList := by
    rw [Array.toList_map]
    -- rows of ds are all let go: what is read is closed
    have key : ∀ (es : List D) {vs : List Value}, (∀ k ∈ rowsL es, k ∈ rowsL ds) → RdL (PX X c) w (some c) es vs → closL (outL s.lk es) = true → RdL (PX X (c.drops (rowsL ds))) w none (outL s.lk es) vs := by
      intro es vs hsub hr hc
      refine Sat.outs' h (ks := rowsL ds) es hsub hr hc
    exact key ds (fun _ h => h) hrd hcl
  refine ((hT f sp hsp).1.plain hhx (PX X (c.drops (rowsL ds))) w _ _ (fun x hx hp => ?_) h'.gl hargs hpre).mono fun e w' ⟨v, he, hv, hE⟩ => ?_
  · have hw0 := h.ext.size
    rcases hp with hp | ⟨k, hl, hk⟩
    · exact h.Xb x (by omega) hp
    · have := h'.id_lt hl hk; omega
  · subst he
    exact hK v w' (h'.world hE) hv.closed

/-- A call that is handed objects. -/
theorem snd_callx (hT : TbOK P kf T) (h : Sat T X Y w0 c s a w) {o : Oper} {f : Nat} {args : Array Operand} {argTypes : Array TypeId} {ys : List Opd} {sp : Sp} {hs : HSp} (ho : o.op = .call { callee := .value (.func f), args, argTypes }) (hc : cArgs P argTypes.toList args.toList = some ys) (hg : gus T s ys) (hsp : T.sp (kf f) = some sp) (hhx : sp.hx = some hs)
    {ks : List Nat} (hpre : hs.pre (renL (inM ks) (ys.map fun x => (x.ev T s).un)) (inObs s.lk ks 0 ks)) (hap : apartN ks = true) (hall : (ks.all fun k => (s.lk k).isSome) = true) {d : D} {ob : List (Nat × Ob)} (hd : d = (hs.F (renL (inM ks) (ys.map fun x => (x.ev T s).un)) (inObs s.lk ks 0 ks)).1) (hob : ob = (hs.F (renL (inM ks) (ys.map fun x => (x.ev T s).un)) (inObs s.lk ks 0 ks)).2)
    (hok : okNames ks.length ob = true) {j : Nat} (hj : (ob.all fun p => decide (baseN ≤ p.1) || (!(s.lk (10000 * (j + 1) + p.1)).isSome && decide (10000 * (j + 1) + p.1 < baseN))) = true)
    {K : Act → World → Prop} {Q : Exit → Act → World → Prop} (hK : ∀ v c' w', Sat T X Y w0 c' ⟨forgetLs (goneK ob 0 ks) s.tm, putObs (outObs j ks ob) (dropObs (goneK ob 0 ks) s.ob)⟩ a w' → Rd (PX X c') w' (some c') (d.ren (outM j ks)) v → K (a.put o.dst v) w') : o.wp P a w K Q := by
  have hrd := cArgs_read h hc hg
  have hrun : (execOp a.eval o).run P w = .ok (.enter f (args.map a.eval)) w := by
    simp only [execOp, ho, resolve, Act.eval, Deferred.ofValue, Sem.run_bind, Sem.run_pure, Result.andThen_ok, invoke]
    simpa using (hT f sp hsp).2 (args.map a.eval) w
  unfold Oper.wp
  rw [hrun, Oper.upon_enter]
  have hall' : ∀ k ∈ ks, (s.lk k).isSome = true := by simpa [List.all_eq_true] using hall
  have hfok := (hT f sp hsp).1
  unfold FOK at hfok
  rw [hhx] at hfok
  have hent := h.enter hap hall' (ds := ys.map fun x => (x.ev T s).un) (args := args.map a.eval) (by rw [Array.toList_map]; exact hrd)
  have hbase : ∀ k, ((inObs s.lk ks 0 ks).lookup k).isSome = true → baseN ≤ k := by
    intro k hk
    rw [lk_inObs s.lk ks ks 0 k hall'] at hk
    split at hk
    · rename_i hb; simpa using hb
    · cases hk
  refine (hfok _ w _ _ _ _ hent hbase hpre).mono fun e w' ⟨v, c2, he, hS⟩ => ?_
  subst he
  rw [← hd, ← hob] at hS
  have hmem : ∀ (l : List (Nat × Ob)) k, (l.lookup k).isSome = true → ∃ o, (k, o) ∈ l := by
    intro l k
    induction l with
    | nil => intro h; simp [List.lookup] at h
    | cons q l ih =>
      intro h
      obtain ⟨q1, q2⟩ := q
      by_cases hq : k = q1
      · exact ⟨q2, by simp [hq]⟩
      · have : (k == q1) = false := by simpa using hq
        simp only [List.lookup, this] at h
        obtain ⟨o, ho⟩ := ih h
        exact ⟨o, List.mem_cons_of_mem _ ho⟩
  obtain ⟨g1, g2⟩ := h.leave hap hall' hS hok (j := j) (fun k hk hlt => by
    obtain ⟨o', ho'⟩ := hmem ob k hk
    rw [List.all_eq_true] at hj
    have := hj _ ho'
    simp only [Bool.or_eq_true, decide_eq_true_eq, Bool.and_eq_true, Bool.not_eq_true'] at this
    rcases this with h1 | ⟨h1, h2⟩
    · omega
    · refine ⟨?_, h2⟩
      cases hq : s.lk (10000 * (j + 1) + k) with
      | none => rfl
      | some _ => rw [hq] at h1; cases h1)
  exact hK v _ w' g1 g2

theorem cOp_pick {op : Op} {U : TypeId} {x y z : Opd} (h : cOp P kf op U = some (.pick x y z)) : ∃ a b c, op = .pick a b c ∧ cOpd P 0 a = some x ∧ cOpd P U b = some y ∧ cOpd P U c = some z := by
  cases op <;> simp only [cOp] at h
  case pick a b c =>
    split at h
    · rename_i h1 h2 h3
      cases h
      exact ⟨a, b, c, rfl, h1, h2, h3⟩
    · cases h
  case call cl =>
    unfold cCall at h
    split at h
    · split at h
      · simp only [Option.map_eq_some_iff] at h
        obtain ⟨_, _, h⟩ := h
        cases h
      · simp only [Option.map_eq_some_iff] at h
        obtain ⟨_, _, h⟩ := h
        cases h
    · unfold cBuiltin at h
      (repeat' (split at h)) <;> (first | (cases h; done) | (simp only [Option.map_eq_some_iff] at h; obtain ⟨_, _, h⟩ := h; cases h))
    · cases h
  all_goals (repeat' (split at h)) <;> (first | (cases h; done) | (simp only [Option.map_eq_some_iff] at h; obtain ⟨_, _, h⟩ := h; cases h))

theorem applyE_val {dst : Option Nat} {g : Option (Nat × Bool)} {G : Bool} {d : D} {s' : St} (h : applyE s dst g G (.val d) = some s') : s' = s.set dst (wrapD g G d) := by
  simp only [applyE, Option.some.injEq] at h; exact h.symm

/-- One operation, in whatever state meets the walk's. -/
theorem step_sound (hT : TbOK P kf T) (h : Sat T X Y w0 c s a w) {ops : Array Oper} {o : Oper} {io : IOper} (hc : cOper P kf ops o = some io) {φ : Prop} {s' : St} (hst : istep T s io = some (φ, s')) (hφ : φ)
    {K : Act → World → Prop} {Q : Exit → Act → World → Prop} (hK : ∀ c' a' w', Sat T X Y w0 c' s' a' w' → K a' w') :
    if Region.wanted o (yielded ops a.tmps) = true then o.wp P a w K Q else K (a.put o.dst undef) w := by
  obtain ⟨hdst, hguard, hop⟩ := cOper_spec hc
  have hop : cOp P kf o.op o.type = some io.op := by
    rcases hop with hop | hop
    · exact hop
    · unfold istep at hst
      rw [hop] at hst
      split at hst
      · cases hst
      · simp only [act] at hst
        cases hst
  unfold istep at hst
  cases hG : gd s io.guard with
  | none => rw [hG] at hst; cases hst
  | some G =>
    rw [hG] at hst
    simp only at hst
    have hw := h.guard hguard hG
    -- where it is not carried out
    have skip : G = false → ∀ d, s' = s.set io.dst (wrapD io.guard G d) → K (a.put o.dst undef) w := by
      intro hGf d hs
      subst hs
      rw [hdst] at hK
      cases hg : io.guard with
      | none => rw [hg] at hG; simp [gd] at hG; rw [hGf] at hG; cases hG
      | some jw =>
        rw [hg, hGf] at hK
        exact hK c _ _ (h.put o.dst wrap_undef)
    -- a datum
    have val : G = true → ∀ d, Yld P X c a w o d → s' = s.set io.dst (wrapD io.guard G d) → o.wp P a w K Q := by
      intro hGt d ⟨v, hr, hd⟩ hs
      subst hs
      unfold Oper.wp
      rw [hr, Oper.upon_value]
      rw [hdst] at hK
      exact hK c _ _ (h.put o.dst (wrap_read hd hGt))
    rw [hw]
    split at hst
    · -- pick
      rename_i x y z hio
      rw [hio] at hop
      split at hst
      · rename_i b hb
        split at hst
        · rename_i d hd
          cases hst
          cases hGv : G with
          | false => simp only [Bool.false_eq_true, if_false]; exact skip hGv _ rfl
          | true =>
            simp only [if_true]
            obtain ⟨p1, p2, p3⟩ := hφ hGv
            obtain ⟨x0, y0, z0, ho, hx, hy, hz⟩ := cOp_pick hop
            exact val hGv d (snd_pick h ho hx hy hz hb hd p1 p2 p3) rfl
        · cases hst
      · cases hst
    · -- call
      rename_i f ys hio
      rw [hio] at hop
      split at hst
      · rename_i sp hsp
        split at hst
        case isFalse => cases hst
        cases hst
        cases hGv : G with
        | false => simp only [Bool.false_eq_true, if_false]; exact skip hGv _ rfl
        | true =>
          simp only [if_true]
          obtain ⟨p0, p1, p2, p3, p4⟩ := hφ hGv
          obtain ⟨f', args, argTypes, hk, ho, hx⟩ := cOp_call hop
          subst hk
          refine snd_call hT h ho hx p1 hsp p0 p2 p3 p4 (K := K) (Q := Q) fun v w' hS hd => ?_
          rw [hdst] at hK
          exact hK c _ _ (hS.put o.dst (wrap_read hd hGv))
      · cases hst
    · rename_i hn1 hn2
      split at hst
      · cases hst
      · rename_i φ' e hact
        split at hst
        · cases hst
        · rename_i s'' happ
          cases hst
          have hok : G = true → ActOK P T X Y w0 c s a w o e := fun hGt => by
            obtain ⟨p1, p2⟩ := hφ hGt
            exact act_ok h hop hact p2 p1
          cases e with
          | val d =>
            have hs := applyE_val happ
            cases hGv : G with
            | false => simp only [Bool.false_eq_true, if_false]; exact skip hGv d hs
            | true => simp only [if_true]; exact val hGv d (hok hGv) hs
          | new ob ptr =>
            simp only [applyE] at happ
            split at happ
            · rename_i k hg hk
              split at happ
              · cases happ
              · rename_i hlk
                cases happ
                rw [hg] at hG
                simp [gd] at hG
                subst hG
                simp only [if_true]
                simp only [not_or, Nat.not_le] at hlk
                obtain ⟨v, w', c', hr, hS⟩ := hok rfl k (hdst ▸ hk) (by simpa using hlk.1) hlk.2
                unfold Oper.wp
                rw [hr, Oper.upon_value]
                exact hK c' _ _ (by rw [hk]; exact hS)
            · cases happ
          | put k ob =>
            simp only [applyE] at happ
            split at happ
            · rename_i hg hk
              cases happ
              rw [hg] at hG
              simp [gd] at hG
              subst hG
              simp only [if_true]
              obtain ⟨w', hr, hS⟩ := hok rfl (hdst ▸ hk)
              unfold Oper.wp
              rw [hr, Oper.upon_skip]
              exact hK c _ _ hS
            · cases happ
          | mv ko ob =>
            simp only [applyE] at happ
            split at happ
            · rename_i j hg hk
              split at happ
              · cases happ
              · rename_i hlk
                rw [hg] at hG
                simp [gd] at hG
                subst hG
                simp only [if_true]
                simp only [not_or, Nat.not_le] at hlk
                obtain ⟨hlk, hjb⟩ := hlk
                cases ko with
                | none =>
                  cases happ
                  obtain ⟨v, w', c', hr, hS⟩ := hok rfl j (hdst ▸ hk) (by
                    cases hl : s.lk j with
                    | none => rfl
                    | some _ => simp [hl] at hlk) hjb
                  unfold Oper.wp
                  rw [hr, Oper.upon_value]
                  exact hK c' _ _ (by rw [hk]; exact hS)
                | some k =>
                  cases happ
                  obtain ⟨v, w', c', hr, hS⟩ := hok rfl j (hdst ▸ hk) (by
                    cases hl : s.lk j with
                    | none => exact .inl rfl
                    | some _ =>
                      right
                      simp [hl] at hlk
                      exact hlk.symm) hjb
                  unfold Oper.wp
                  rw [hr, Oper.upon_value]
                  exact hK c' _ _ (by rw [hk]; exact hS)
            · cases happ
          | frz ks d =>
            simp only [applyE] at happ
            split at happ
            · rename_i hg
              cases happ
              rw [hg] at hG
              simp [gd] at hG
              subst hG
              simp only [if_true]
              obtain ⟨f, as, sp, e1, e2, e3, e4, e5, e6⟩ := act_frz hact
              obtain ⟨p1, p2⟩ := hφ rfl
              rw [e4] at p2
              rw [e1] at hop p1
              obtain ⟨f', args, argTypes, hk, ho, hx⟩ := cOp_callx hop
              subst hk
              refine snd_callf hT h ho hx (by simpa only [IOp.opds] using p1) e2 e3 p2.1 p2.2 (K := K) (Q := Q) fun v w' hS hd => ?_
              rw [hdst] at hK
              subst e5 e6
              exact hK _ _ _ (hS.put o.dst hd)
            · cases happ
          | cal ks d ob =>
            simp only [applyE] at happ
            split at happ
            · rename_i hg
              split at happ
              · rename_i hnm
                cases happ
                rw [hg] at hG
                simp [gd] at hG
                subst hG
                simp only [if_true]
                obtain ⟨f, as, sp, hs, e1, e2, e3, e4, e5, e6⟩ := act_cal hact
                obtain ⟨p1, p2⟩ := hφ rfl
                rw [e4] at p2
                rw [e1] at hop p1
                obtain ⟨f', args, argTypes, hk, ho, hx⟩ := cOp_callx hop
                subst hk
                refine snd_callx hT h ho hx (by simpa only [IOp.opds] using p1) e2 e3 p2.1 p2.2.1 p2.2.2.1 e5 e6 p2.2.2.2 hnm (K := K) (Q := Q) fun v c' w' hS hd => ?_
                rw [hdst] at hK hS hd
                exact hK _ _ _ (hS.put o.dst hd)
              · cases happ
            · cases happ
end
end Go.Vcg
