/-
  Single operations of the model do on the world what they do on data, part two. For every program; no conditions but those that each theorem names.
-/
import Derived.Test.YthnnbhjdmnegfaaVcgB
set_option linter.unusedVariables false
set_option linter.unusedSimpArgs false
namespace Go.Vcg
section
variable {P : Program} {T : Tb} {X Y : Nat → Prop} {w0 w : World} {c : Cx} {s : St} {a : Act}

/-! ### The walk's objects -/
theorem lk_put (k : Nat) (o : Ob) : ∀ (l : List (Nat × Ob)) (j : Nat), (obPut k o l).lookup j = if j = k then some o else l.lookup j
  | [], j => by simp [obPut, List.lookup]; split <;> simp_all
  | (i, p) :: r, j => by
    simp only [obPut]
    split
    · rename_i h
      subst h
      by_cases hj : j = i
      · simp [List.lookup, hj]
      · have : (j == i) = false := by simpa using hj
        simp [List.lookup, this, hj]
    · rename_i h
      by_cases hj : j = i
      · have : i ≠ k := h
        simp [List.lookup, hj, this]
      · have h1 : (j == i) = false := by simpa using hj
        simp only [List.lookup, h1]
        rw [lk_put k o r j]

theorem lk_del (k : Nat) : ∀ (l : List (Nat × Ob)) (j : Nat), (obDel k l).lookup j = if j = k then none else l.lookup j
  | [], j => by simp [obDel, List.lookup]
  | (i, p) :: r, j => by
    simp only [obDel]
    split
    · rename_i h
      subst h
      rw [lk_del i r j]
      by_cases hj : j = i
      · simp [hj]
      · have : (j == i) = false := by simpa using hj
        simp [List.lookup, this, hj]
    · rename_i h
      by_cases hj : j = i
      · have : i ≠ k := h
        simp [List.lookup, hj, this]
      · have h1 : (j == i) = false := by simpa using hj
        simp only [List.lookup, h1]
        rw [lk_del k r j]

theorem lk_forget (k : Nat) : ∀ (l : List (Nat × Ob)) (j : Nat), (forgetO k l).lookup j = (l.lookup j).map (Ob.forget k)
  | [], j => by simp [forgetO, List.lookup]
  | (i, p) :: r, j => by
    simp only [forgetO]
    by_cases hj : j = i
    · simp [List.lookup, hj]
    · have h1 : (j == i) = false := by simpa using hj
      simp only [List.lookup, h1]
      exact lk_forget k r j

theorem Sat.id_lt (h : Sat T X Y w0 c s a w) {k b : Nat} (hl : c.live k = true) (hb : c.ids k = some b) : b < w.heap.size := by
  rw [h.live] at hl
  obtain ⟨o, ho⟩ := Option.isSome_iff_exists.1 hl
  have := h.ob k o ho
  cases o with
  | box cs =>
    obtain ⟨b', arr, U, e1, e2, _⟩ := this
    rw [hb] at e1
    obtain rfl := Option.some.inj e1
    exact (Array.getElem?_eq_some_iff.1 e2).1
  | row sz es =>
    obtain ⟨vs, U, e1, _, _, e4⟩ := this
    rw [hb] at e4
    rcases e1.2 with ⟨g, _⟩ | ⟨g, cap, cur, f1, f2, f3, f4⟩
    · rw [g] at e4; simp [Value.ownBlock] at e4
    · rw [f1] at e4
      simp [Value.ownBlock] at e4
      subst e4
      exact (Array.getElem?_eq_some_iff.1 f3).1

/-- Another place for the objects, the same where they are. -/
def Cx.with (c : Cx) (k : Nat) (b : Option Nat) (v : Value) : Cx :=
  { ids := fun j => if j = k then b else c.ids j, rv := fun j => if j = k then v else c.rv j, live := fun j => if j = k then true else c.live j }

/-- The world goes on: blocks of the walk's own may turn. What reads off them stays. -/
theorem Sat.reads (h : Sat T X Y w0 c s a w) {w' : World} {c' : Cx} (hE : Ext (PX X c) w w') (hle : Cx.le (some c) (some c')) (hX : ∀ b, b < w.heap.size → PX X c' b → PX X c b) :
    (∀ (d : D) (v : Value), Rd (PX X c) w (some c) d v → Rd (PX X c') w' (some c') d v) ∧ (∀ (d : D) (v : Value), Rd (PX X c) w none d v → Rd (PX X c') w' none d v) ∧
    (∀ (ds : List D) (vs : List Value), RdL (PX X c) w (some c) ds vs → RdL (PX X c') w' (some c') ds vs) ∧ (∀ (sz : Nat) (es : List (List D)) (vs : List Value), RdE (PX X c) w sz es vs → RdE (PX X c') w' sz es vs) :=
  ⟨fun d v hd => Rd.mono hE (fun _ _ h => h) hX d hle hd, fun d v hd => Rd.mono hE (fun _ _ h => h) hX d (c := none) (c' := none) trivial hd, fun ds vs hd => RdL.mono hE (fun _ _ h => h) hX ds hle hd, fun sz es vs hd => RdE.mono hE (fun _ _ h => h) hX es hd⟩

/-- A new object in a new block. -/
theorem Sat.new (h : Sat T X Y w0 c s a w) {k : Nat} (hk : s.lk k = none) {w' : World} (hE : Ext (fun _ => False) w w') {b : Option Nat} (hb : ∀ x, b = some x → w.heap.size ≤ x ∧ x < w'.heap.size) {v : Value} (hv : v.cells = #[v] ∧ v.oneCell' = true) {o : Ob}
    (ho : (∀ (ds : List D) (vs : List Value), RdL (PX X c) w (some c) ds vs → RdL (PX X (c.with k b v)) w' (some (c.with k b v)) ds vs) → (∀ (sz : Nat) (es : List (List D)) (vs : List Value), RdE (PX X c) w sz es vs → RdE (PX X (c.with k b v)) w' sz es vs) → ObOK X w' (c.with k b v) k o) :
    Sat T X Y w0 (c.with k b v) { s with ob := obPut k o s.ob } a w' := by
  have hlive : c.live k = false := by rw [h.live, hk]; rfl
  have hle : Cx.le (some c) (some (c.with k b v)) := by
    intro j hj
    have : j ≠ k := fun e => by subst e; rw [hlive] at hj; cases hj
    simp [Cx.with, this, hj]
  have hPX : ∀ x, x < w.heap.size → PX X (c.with k b v) x → PX X c x := by
    intro x hx hp
    rcases hp with hp | ⟨j, hj, hij⟩
    · exact .inl hp
    · by_cases hjk : j = k
      · subst hjk
        simp [Cx.with] at hij
        have := hb x hij
        omega
      · simp [Cx.with, hjk] at hj hij
        exact .inr ⟨j, hj, hij⟩
  have hE' : Ext (PX X c) w w' := hE.mono fun _ _ h => h.elim
  obtain ⟨r1, r2, r3, r4⟩ := h.reads hE' hle hPX
  have hlk : ∀ j, St.lk { s with ob := obPut k o s.ob } j = if j = k then some o else s.lk j := fun j => lk_put k o s.ob j
  have hw0 : w0.heap.size ≤ w.heap.size := h.ext.size
  refine ⟨?_, r3 _ _ h.tm, ?_, ?_, ?_, h.ext.trans (hE.mono fun _ _ h => h.elim), fun i => r2 _ _ (h.gl i), h.Xb, ?_, h.dfs⟩
  · intro j
    rw [hlk]
    by_cases hj : j = k
    · simp [Cx.with, hj]
    · simp [Cx.with, hj, h.live]
  · intro j p hp
    rw [hlk] at hp
    by_cases hj : j = k
    · subst hj
      simp at hp
      subst hp
      exact ho r3 r4
    · simp [hj] at hp
      have hold := h.ob j p hp
      cases p with
      | box cs =>
        obtain ⟨b', arr, U, e1, e2, e3⟩ := hold
        exact ⟨b', arr, U, by simp [Cx.with, hj, e1], by rw [hE.block b' (Array.getElem?_eq_some_iff.1 e2).1 id]; exact e2, r3 _ _ e3⟩
      | row sz es =>
        obtain ⟨vs, U, e1, e2, e3, e4⟩ := hold
        refine ⟨vs, U, ⟨e1.1, ?_⟩, r4 _ _ _ e2, e3, by simp [Cx.with, hj, e4]⟩
        rcases e1.2 with g | ⟨g, cap, cur, f1, f2, f3, f4⟩
        · exact .inl (by simpa [Cx.with, hj] using g)
        · exact .inr ⟨g, cap, cur, by simpa [Cx.with, hj] using f1, f2, by rw [hE.block g (Array.getElem?_eq_some_iff.1 f3).1 id]; exact f3, f4⟩
  · intro i j x hi hj hix hjx
    by_cases hik : i = k <;> by_cases hjk : j = k
    · rw [hik, hjk]
    · subst hik
      simp [Cx.with] at hix
      simp [Cx.with, hjk] at hj hjx
      have h1 := hb x hix
      exact absurd (Nat.lt_of_lt_of_le (h.id_lt hj hjx) h1.1) (Nat.lt_irrefl _)
    · subst hjk
      simp [Cx.with] at hjx
      simp [Cx.with, hik] at hi hix
      have h1 := hb x hjx
      exact absurd (Nat.lt_of_lt_of_le (h.id_lt hi hix) h1.1) (Nat.lt_irrefl _)
    · simp [Cx.with, hik, hjk] at hi hj hix hjx
      exact h.inj i j x hi hj hix hjx
  · intro j x hj hjx
    by_cases hjk : j = k
    · subst hjk
      simp [Cx.with] at hjx
      have h1 := hb x hjx
      exact ⟨.inl (by omega), h.Xb x (by omega)⟩
    · simp [Cx.with, hjk] at hj hjx
      exact h.fresh j x hj hjx
  · intro j hj
    by_cases hjk : j = k
    · subst hjk; simpa [Cx.with] using hv
    · simp [Cx.with, hjk] at hj ⊢
      exact h.rv1 j hj

theorem Ext.alloc (w : World) (o : Obj) : Ext (fun _ => False) w (w.alloc o) := ⟨rfl, rfl, rfl, by simp, fun k hk _ => RowKit.Below.heap_alloc w o k hk⟩

theorem Sat.newBox (h : Sat T X Y w0 c s a w) {k : Nat} (hk : s.lk k = none) {cs : List D} {vs : List Value} (hr : RdL (PX X c) w (some c) cs vs) (U : TypeId) :
    Sat T X Y w0 (c.with k (some w.heap.size) (.pointer (some ⟨w.heap.size, 0, none⟩))) { s with ob := obPut k (.box cs) s.ob } a (w.alloc (.cells vs.toArray U)) :=
  h.new hk (Ext.alloc _ _) (fun x hx => by simp at hx; subst hx; simp) ⟨rfl, rfl⟩ fun r _ => ⟨w.heap.size, vs.toArray, U, by simp [Cx.with], heap_alloc_new _ _, r _ _ hr⟩

theorem Sat.newRow (h : Sat T X Y w0 c s a w) {k : Nat} (hk : s.lk k = none) {sz n : Nat} {es : List (List D)} {vs : List Value} (hr : RdE (PX X c) w sz es vs) (h1 : ∀ u ∈ vs, u.oneCell' = true) (hn : es.length = n) (hm : n ≤ maxLen) (U : TypeId) :
    Sat T X Y w0 (c.with k (some w.heap.size) (.slice (some ⟨w.heap.size, 0, none⟩) n n)) { s with ob := obPut k (.row sz es) s.ob } a (w.alloc (.cells vs.toArray U)) :=
  h.new hk (Ext.alloc _ _) (fun x hx => by simp at hx; subst hx; simp) ⟨rfl, rfl⟩ fun _ r => by
    have hl := hr.length
    refine ⟨vs, U, ⟨hl, .inr ⟨w.heap.size, n, vs.toArray, by simp [Cx.with, hn], Nat.zero_le _, heap_alloc_new _ _, by omega, hm, ?_, ?_⟩⟩, r _ _ _ hr, h1, by simp [Cx.with, Value.ownBlock]⟩
    · simp [hl, hn]
    · rw [← hl]; simp

/-- A new box, with the slot that points to it. -/
theorem snd_alloc (h : Sat T X Y w0 c s a w) {o : Oper} {U : TypeId} {cs : List D} (ho : o.op = .alloc U) (hz : zeroT P U = some cs) {k : Nat} (hd : o.dst = some k) (hk : s.lk k = none) :
    ∃ v w' c', (execOp a.eval o).run P w = .ok (.value v) w' ∧ Sat T X Y w0 c' ((St.mk s.tm (obPut k (.box cs) s.ob)).set (some k) (.own k 0)) (a.put o.dst v) w' := by
  obtain ⟨it, z, hi, hz1, hz2⟩ := zeroT_spec hz
  have hn := h.newBox hk (mL_read (w := w) hz2) U
  simp only [Array.toArray_toList] at hn
  refine ⟨.pointer (some ⟨w.heap.size, 0, none⟩), w.alloc (.cells z.cells U), c.with k (some w.heap.size) (.pointer (some ⟨w.heap.size, 0, none⟩)), ?_, ?_⟩
  · simp only [execOp, ho, Instr.alloc, Sem.run_bind, zeroValue, typeInfo, program, Sem.run, hi, hz1, Sem.run_pure, Result.andThen_ok, newVar, newRow, newObj]
    rfl
  · rw [hd]
    have := hn.put (some k) (d := .own k 0) (v := .pointer (some ⟨w.heap.size, 0, none⟩)) (by simp only [Rd]; exact ⟨by simp [Cx.with], w.heap.size, by simp [Cx.with], rfl⟩)
    simpa using this

theorem snd_box (h : Sat T X Y w0 c s a w) {o : Oper} {U : TypeId} {x : Operand} {y : Opd} (ho : o.op = .box U x) (hx : cOpd P U x = some y) (hg : (y.ev T s).gu = true) (hc : (y.ev T s).un.cells.all D.cell' = true) {k : Nat} (hd : o.dst = some k) (hk : s.lk k = none) :
    ∃ v w' c', (execOp a.eval o).run P w = .ok (.value v) w' ∧ Sat T X Y w0 c' ((St.mk s.tm (obPut k (.box (y.ev T s).un.cells) s.ob)).set (some k) (.own k 0)) (a.put o.dst v) w' := by
  have hn := h.newBox hk (h.cells (h.opdU hx hg) hc) U
  simp only [Array.toArray_toList] at hn
  refine ⟨.pointer (some ⟨w.heap.size, 0, none⟩), w.alloc (.cells (a.eval x).cells U), c.with k (some w.heap.size) (.pointer (some ⟨w.heap.size, 0, none⟩)), ?_, ?_⟩
  · simp only [execOp, ho, Instr.box, Sem.run_bind, Sem.run_pure, Result.andThen_ok, newVar, newRow, newObj, Sem.run]
    rfl
  · rw [hd]
    have := hn.put (some k) (d := .own k 0) (v := .pointer (some ⟨w.heap.size, 0, none⟩)) (by simp only [Rd]; exact ⟨by simp [Cx.with], w.heap.size, by simp [Cx.with], rfl⟩)
    simpa using this

/-! ### Slice literals -/
theorem fill_rows (hS : Sat T X Y w0 c s a w) {e : TypeId} {sz : Nat} {place : Nat → Option (Nat × Nat)} (hpl : ∀ i, place i = some (i * sz, sz)) :
    ∀ {ps : List (Nat × Operand)} {qs : List (Nat × Opd)}, cRows P e ps = some qs → gus T s (qs.map (·.2)) → ∀ {es : List (List D)} {us : List Value} {φ : Prop} {out : List (List D)}, fillRows sz (fun x => (x.ev T s).un) qs es = some (φ, out) → φ →
      RdE (PX X c) w sz es us → (∀ u ∈ us, u.oneCell' = true) → ∃ vs, Instr.fill place us.toArray (ps.map fun p => (p.1, a.eval p.2)) = some vs.toArray ∧ RdE (PX X c) w sz out vs ∧ (∀ u ∈ vs, u.oneCell' = true) ∧ out.length = es.length
  | [], qs, h, _, es, us, φ, out, hf, _, hr, h1 => by
    simp [cRows] at h
    subst h
    simp only [fillRows, Option.some.injEq, Prod.mk.injEq] at hf
    obtain ⟨_, rfl⟩ := hf
    exact ⟨us, rfl, hr, h1, rfl⟩
  | (i, x) :: ps, qs, h, hg, es, us, φ, out, hf, hφ, hr, h1 => by
    simp only [cRows] at h
    split at h
    · rename_i y l hy hl
      simp at h
      subst h
      simp only [List.map_cons, gus] at hg
      simp only [fillRows] at hf
      split at hf
      · rename_i ψ out' hf'
        simp only [Option.some.injEq, Prod.mk.injEq] at hf
        obtain ⟨rfl, rfl⟩ := hf
        obtain ⟨g1, g2, g3, g4⟩ := hφ
        have hc' : (y.ev T s).un.cells.all D.cell' = true := by
          rw [List.all_eq_true] at g2 ⊢
          exact fun d hd => cell_cell' (g2 d hd)
        have hd := hS.cells (hS.opdU hy hg.1) hc'
        have hone := hS.ones hd hc'
        have hd0 : RdL (PX X c) w none ((y.ev T s).un.cells.map D.pl) (a.eval x).cells.toList := (hd.open_ g2).pl
        have hlen := hd.length
        have hul := hr.length
        have hsz : (a.eval x).cells.toList.length = sz := hlen.trans g1
        have hin : i * sz + sz ≤ us.length := by rw [hul, ← Nat.succ_mul]; exact Nat.mul_le_mul_right sz g3
        obtain ⟨vs, e1, e2, e3, e4⟩ := fill_rows hS hpl hl hg.2 hf' g4 (RdE.set i hd0 hsz hr g3) (by
          intro u hu
          rw [List.mem_append, List.mem_append] at hu
          rcases hu with (hu | hu) | hu
          · exact h1 u (List.mem_of_mem_take hu)
          · exact hone u hu
          · exact h1 u (List.mem_of_mem_drop hu))
        refine ⟨vs, ?_, e2, e3, by rw [e4]; simp⟩
        rw [List.map_cons, fill_cons (hpl i) (by simpa using hsz) (by simpa using hin)]
        rw [← e1]
      · simp at hf
    · simp at h

theorem rows_replicate {sz : Nat} {ds : List D} {vs : List Value} (h : RdL X w none ds vs) (hl : vs.length = sz) : ∀ n, RdE X w sz (List.replicate n ds) (List.replicate n vs).flatten
  | 0 => by simp [RdE]
  | n + 1 => by
    simp only [List.replicate_succ, List.flatten_cons, RdE]
    exact ⟨vs, _, rfl, hl, h, rows_replicate h hl n⟩

theorem range_cells (z : Array Value) (n : Nat) (hz : 0 < z.size) : ((Array.range (n * z.size)).map (z[· % z.size]!)) = ((List.replicate n z.toList).flatten).toArray := by
  apply Array.ext'
  simp only [Array.toList_map, Array.toList_range]
  induction n with
  | zero => simp
  | succ n ih =>
    rw [Nat.succ_mul, List.range_add, List.map_append, ih, List.replicate_succ', List.flatten_append]
    congr 1
    simp only [List.map_map, List.flatten_cons, List.flatten_nil, List.append_nil]
    apply List.ext_getElem
    · simp
    · intro i h1 h2
      simp at h1
      simp [Nat.mod_eq_of_lt h1, h1]

theorem snd_bslice (h : Sat T X Y w0 c s a w) {o : Oper} {U e : TypeId} {n sz : Nat} {parts : Array (Nat × Operand)} {zs : List D} {qs : List (Nat × Opd)} (ho : o.op = .buildSlice U n parts) (hu : P.underlying U = some (.slice e)) (hz : zeroT P e = some zs) (hsz : sizeT P e = some sz) (hq : cRows P e parts.toList = some qs)
    (hzl : zs.length = sz) (h0 : 0 < sz) (hn0 : 0 < n) (hmax : n * sz ≤ 16777216) (hg : gus T s (qs.map (·.2))) {φ : Prop} {es : List (List D)} (hf : fillRows sz (fun x => (x.ev T s).un) qs (List.replicate n zs) = some (φ, es)) (hφ : φ)
    {k : Nat} (hd : o.dst = some k) (hk : s.lk k = none) :
    ∃ v w' c', (execOp a.eval o).run P w = .ok (.value v) w' ∧ Sat T X Y w0 c' ((St.mk s.tm (obPut k (.row sz es) s.ob)).set (some k) (.row k)) (a.put o.dst v) w' := by
  obtain ⟨it, z, hi, hz1, hz2⟩ := zeroT_spec hz
  have hisz : it.size = sz := by simpa [sizeT, hi] using hsz
  have hzr : RdL (PX X c) w none zs z.cells.toList := mL_read hz2
  have hzlen : z.cells.size = sz := by have := hzr.length; simpa [hzl] using this
  have hz1c : ∀ u ∈ z.cells.toList, u.oneCell' = true := by
    intro u hu
    obtain ⟨j, hj, rfl⟩ := List.getElem_of_mem hu
    have : ∀ {ds : List D} {vs : List Value}, mL ds vs = true → ∀ u ∈ vs, u.oneCell' = true := by
      intro ds
      induction ds with
      | nil => intro vs hm u hu; cases vs <;> simp [mL] at hm hu
      | cons d ds ih =>
        intro vs hm u hu
        cases vs with
        | nil => simp at hu
        | cons v vs =>
          simp only [mL, Bool.and_eq_true] at hm
          rcases List.mem_cons.1 hu with rfl | hu
          · have h1 := hm.1
            cases u <;> first | rfl | (cases d <;> simp [mV] at h1)
          · exact ih hm.2 u hu
    exact this hz2 _ hu
  obtain ⟨vs, e1, e2, e3, e4⟩ := fill_rows h (P := P) (place := fun i => some (i * sz, sz)) (fun _ => rfl) hq hg hf hφ (rows_replicate hzr (by simpa using hzlen) n) (by
    intro u hu
    simp only [List.mem_flatten, List.mem_replicate] at hu
    obtain ⟨l, ⟨_, rfl⟩, hu⟩ := hu
    exact hz1c u hu)
  have hesn : es.length = n := by rw [e4]; simp
  have hnm : n ≤ maxLen := by
    have : n ≤ n * sz := Nat.le_mul_of_pos_right n h0
    simp only [maxLen]; omega
  have hnew := h.newRow hk e2 e3 hesn hnm e
  refine ⟨.slice (some ⟨w.heap.size, 0, none⟩) n n, w.alloc (.cells vs.toArray e), c.with k (some w.heap.size) (.slice (some ⟨w.heap.size, 0, none⟩) n n), ?_, ?_⟩
  · have hr := run_buildSlice (P := P) w U e n (parts.map fun (i, x) => (i, a.eval x)) vs.toArray it z hu hi hz1 (by rw [hisz]; omega) (by rw [hisz]; exact Nat.mul_ne_zero (by omega) (by omega)) (by
      rw [hisz, ← hzlen, range_cells z.cells n (by omega), hzlen]
      rw [← e1]
      simp [Array.toList_map])
    simp only [execOp, ho, Sem.run_bind, hr, Result.andThen_ok, Sem.run_pure]
  · rw [hd]
    exact hnew.put (some k) (d := .row k) (by simp only [Rd]; exact ⟨by simp [Cx.with], by simp [Cx.with]⟩)
end
end Go.Vcg

namespace Go.Vcg
section
variable {P : Program} {T : Tb} {X Y : Nat → Prop} {w0 w : World} {c : Cx} {s : St} {a : Act}

/-- An object is turned in its own block. -/
theorem Sat.upd (h : Sat T X Y w0 c s a w) {k : Nat} {p o : Ob} (hk : s.lk k = some p) {w' : World} (hE : Ext (fun b => c.ids k = some b) w w')
    (ho : (∀ (ds : List D) (vs : List Value), RdL (PX X c) w (some c) ds vs → RdL (PX X c) w' (some c) ds vs) → (∀ (sz : Nat) (es : List (List D)) (vs : List Value), RdE (PX X c) w sz es vs → RdE (PX X c) w' sz es vs) → ObOK X w' c k o) :
    Sat T X Y w0 c { s with ob := obPut k o s.ob } a w' := by
  have hl : c.live k = true := by rw [h.live, hk]; rfl
  have hE' : Ext (PX X c) w w' := hE.mono fun b _ hb => .inr ⟨k, hl, hb⟩
  obtain ⟨r1, r2, r3, r4⟩ := h.reads (c' := c) hE' (Cx.le_refl _) (fun _ _ h => h)
  have hlk : ∀ j, St.lk { s with ob := obPut k o s.ob } j = if j = k then some o else s.lk j := fun j => lk_put k o s.ob j
  refine ⟨?_, r3 _ _ h.tm, ?_, h.inj, h.fresh, h.ext.trans' hE (fun b hb hw => ?_), fun i => r2 _ _ (h.gl i), h.Xb, h.rv1, h.dfs⟩
  · intro j
    rw [hlk]
    by_cases hj : j = k
    · simp [hj, hl]
    · simp [hj, h.live]
  · intro j q hq
    rw [hlk] at hq
    by_cases hj : j = k
    · subst hj
      simp at hq
      subst hq
      exact ho r3 r4
    · simp [hj] at hq
      have hold := h.ob j q hq
      have hlj : c.live j = true := by rw [h.live, hq]; rfl
      have hne : ∀ b, c.ids j = some b → ¬ c.ids k = some b := fun b h1 h2 => hj (h.inj j k b hlj hl h1 h2)
      cases q with
      | box cs =>
        obtain ⟨b', arr, U, e1, e2, e3⟩ := hold
        exact ⟨b', arr, U, e1, by rw [hE.block b' (Array.getElem?_eq_some_iff.1 e2).1 (hne b' e1)]; exact e2, r3 _ _ e3⟩
      | row sz es =>
        obtain ⟨vs, U, e1, e2, e3, e4⟩ := hold
        refine ⟨vs, U, ⟨e1.1, ?_⟩, r4 _ _ _ e2, e3, e4⟩
        rcases e1.2 with g | ⟨g, cap, cur, f1, f2, f3, f4⟩
        · exact .inl g
        · have : c.ids j = some g := by rw [← e4, f1]; rfl
          exact .inr ⟨g, cap, cur, f1, f2, by rw [hE.block g (Array.getElem?_eq_some_iff.1 f3).1 (hne g this)]; exact f3, f4⟩
  · rcases (h.fresh k b hl hb).1 with h1 | h1
    · exact .inl h1
    · exact .inr h1

theorem Ext.setRow {b : Nat} {arr : Array Value} (w : World) : Ext (fun x => x = b) w (w.setRow b arr) :=
  ⟨rfl, rfl, rfl, by simp, fun k _ hk => setRow_other w b k arr hk⟩

theorem run_storeAt {U : TypeId} {n : Nat} (hn : sizeT P U = some n) {b o : Nat} {arr : Array Value} {E : TypeId} (hb : w.heap[b]? = some (.cells arr E (0, 0))) {v : Value} (hv : v.cells.size = n) (hl : o + n ≤ arr.size) (h1 : ∀ u ∈ v.cells.toList, u.oneCell' = true) :
    (Instr.storeAt U (.pointer (some ⟨b, o, none⟩)) v).run P w = .ok () (w.setRow b (arr.toList.take o ++ v.cells.toList ++ arr.toList.drop (o + n)).toArray) := by
  have hne : ¬ v.cells.size ≠ n := by omega
  have := run_storeCells_at (P := P) b o E v.cells.toList 0 arr w hb (by simpa [hv] using hl) h1
  simp only [Instr.storeAt, Instr.sureAddr, Sem.run_bind, Sem.run_pure, Result.andThen_ok, storeVar, run_sizeOf hn, if_neg hne]
  rw [this]
  simp [hv]

theorem snd_store (h : Sat T X Y w0 c s a w) {o : Oper} {U : TypeId} {x v : Operand} {y z : Opd} {n : Nat} (ho : o.op = .store U x v) (hn : sizeT P U = some n) (hx : cOpd P 0 x = some y) (hz : cOpd P U v = some z) (hg : (y.ev T s).gu = true) (hg' : (z.ev T s).gu = true) (hd : o.dst = none)
    {φ : Prop} {k : Nat} {ob : Ob} (hact : act T (.store n y z) (fun x => (x.ev T s).un) s.lk = some (φ, .put k ob)) (hφ : φ) :
    ∃ w', (execOp a.eval o).run P w = .ok .skip w' ∧ Sat T X Y w0 c { s with ob := obPut k ob s.ob } (a.put o.dst undef) w' := by
  have hr := h.opdU hx hg
  have hrv := h.opdU hz hg'
  have hput : a.put o.dst undef = a := by rw [hd]; rfl
  have he : ∀ w', (Instr.storeAt U (a.eval x) (a.eval v)).run P w = .ok () w' → (execOp a.eval o).run P w = .ok .skip w' := fun w' hw => by
    simp only [execOp, ho, Sem.run_bind, hw, Result.andThen_ok, Sem.run_pure]
  simp only [act] at hact
  split at hact
  · rename_i k' off hk
    split at hact
    · rename_i cs hlk
      simp only [Option.some.injEq, Prod.mk.injEq, Eff.put.injEq] at hact
      obtain ⟨rfl, rfl, rfl⟩ := hact
      obtain ⟨hl, hlen, hc⟩ := hφ
      rw [hk] at hr
      simp only [Rd] at hr
      obtain ⟨hlv, b, hb, hv⟩ := hr
      obtain ⟨b', arr, E, e1, e2, e3⟩ := h.ob k' _ hlk
      obtain rfl : b' = b := Option.some.inj (e1.symm.trans hb)
      have hrc := h.cells hrv hc
      have hone := h.ones hrc hc
      have hcl := hrc.length
      have hal := e3.length
      have hvs : (a.eval v).cells.size = n := by simpa [hlen] using hcl
      have hsz : arr.size = cs.length := by simpa using hal
      have hrun := run_storeAt (P := P) (w := w) hn e2 hvs (by omega) hone (o := off)
      refine ⟨_, he _ (by rw [hv]; exact hrun), ?_⟩
      rw [hput]
      refine h.upd hlk ((Ext.setRow w).mono fun q _ hq => by subst hq; exact e1) fun r3 _ => ?_
      refine ⟨b', _, E, e1, setRow_heap w b' arr _ E _ e2, ?_⟩
      have hsp := splice_read e3 hrc off
      rw [hcl, hlen] at hsp
      simpa using r3 _ _ hsp
    · simp at hact
  · rename_i k' sz i off hk
    split at hact
    · rename_i sz' es hlk
      simp only [Option.some.injEq, Prod.mk.injEq, Eff.put.injEq] at hact
      obtain ⟨rfl, rfl, rfl⟩ := hact
      obtain ⟨rfl, hi, hl, hlen, hc⟩ := hφ
      rw [hk] at hr
      simp only [Rd] at hr
      obtain ⟨hlv, b, hb, hv⟩ := hr
      obtain ⟨vs, E, e1, e2, e3, e4⟩ := h.ob k' _ hlk
      rw [hb] at e4
      rcases e1.2 with ⟨g1, g2⟩ | ⟨g, cap, cur, g1, g2, g3, g4, g5, g6, g7⟩
      · rw [g1] at e4; simp [Value.ownBlock] at e4
      · have e4' := e4
        rw [g1] at e4
        simp [Value.ownBlock] at e4
        subst e4
        have hc' : (z.ev T s).un.cells.all D.cell' = true := by
          rw [List.all_eq_true] at hc ⊢
          exact fun d hd => cell_cell' (hc d hd)
        have hrc := h.cells hrv hc'
        have hone := h.ones hrc hc'
        have hrn := hrc.open_ hc
        have hcl := hrc.length
        have hvl := e2.length
        have hvs : (a.eval v).cells.size = n := by simpa [hlen] using hcl
        have hin : i * sz' + sz' ≤ es.length * sz' := by rw [← Nat.succ_mul]; exact Nat.mul_le_mul_right sz' hi
        have hcap : es.length * sz' ≤ cur.size := by rw [g6]; exact Nat.mul_le_mul_right sz' g4
        have hrun := run_storeAt (P := P) (w := w) hn g3 hvs (o := i * sz' + off) (by omega) hone
        refine ⟨_, he _ (by rw [hv]; exact hrun), ?_⟩
        rw [hput]
        refine h.upd hlk ((Ext.setRow w).mono fun q _ hq => by subst hq; exact hb) fun _ r4 => ?_
        have hei : es[i]? = some (elem es i) := by simp [elem, hi]
        obtain ⟨q1, q2⟩ := e2.get i _ hei
        have hnew := splice_read q1 hrn.pl off
        have hnl : ((List.take off (List.take sz' (List.drop (i * sz') vs))) ++ (a.eval v).cells.toList ++ List.drop (off + (a.eval v).cells.toList.length) (List.take sz' (List.drop (i * sz') vs))).length = sz' := by
          simp only [List.length_append, List.length_take, List.length_drop, Array.length_toList, hvs]
          omega
        have hset := RdE.set i hnew hnl e2 hi
        have hlist : vs.take (i * sz') ++ ((List.take off (List.take sz' (List.drop (i * sz') vs))) ++ (a.eval v).cells.toList ++ List.drop (off + (a.eval v).cells.toList.length) (List.take sz' (List.drop (i * sz') vs))) ++ vs.drop (i * sz' + sz')
            = vs.take (i * sz' + off) ++ (a.eval v).cells.toList ++ vs.drop (i * sz' + off + n) := by
          simp only [Array.length_toList, hvs, List.append_assoc]
          rw [List.take_take, Nat.min_eq_left (by omega), List.drop_take, List.drop_drop, List.take_add]
          simp only [List.append_assoc]
          congr 3
          have : vs.drop (i * sz' + off + n) = (vs.drop (i * sz' + off + n)).take (sz' - (off + n)) ++ (vs.drop (i * sz' + off + n)).drop (sz' - (off + n)) := (List.take_append_drop _ _).symm
          rw [this, List.drop_drop]
          congr 1
          · rw [Nat.add_assoc]
          · congr 1; omega
        rw [hlist] at hset
        have hvl' : vs.length = es.length * sz' := hvl
        refine ⟨_, E, ⟨?_, .inr ⟨g, cap, _, by rw [g1]; simp, g2, setRow_heap w g cur _ E _ g3, by simpa using g4, g5, ?_, ?_⟩⟩, r4 _ _ _ hset, ?_, by rw [e4']; exact hb.symm⟩
        · simp only [List.length_append, List.length_take, List.length_drop, Array.length_toList, hvs, List.length_set]; omega
        · simp only [List.size_toArray, List.length_append, List.length_take, List.length_drop, Array.length_toList, hvs]; omega
        · simp only [List.toList_toArray, List.length_set]
          rw [← g7]
          have hc1 : (cur.toList.take (i * sz' + off)).length = i * sz' + off := by rw [List.length_take, Array.length_toList]; omega
          have hvn : (a.eval v).cells.toList.length = n := by simpa using hvs
          rw [List.append_assoc, List.take_append, List.take_append, hc1, hvn, List.append_assoc]
          congr 1
          · rw [List.take_take, List.take_take]; congr 1; omega
          · congr 1
            · rw [List.take_of_length_le (by omega)]
            · rw [List.drop_take]
              congr 1
              omega
        · intro u hu
          rw [List.mem_append, List.mem_append] at hu
          rcases hu with (hu | hu) | hu
          · exact e3 u (List.mem_of_mem_take hu)
          · exact hone u hu
          · exact e3 u (List.mem_of_mem_drop hu)
    · simp at hact
  · simp at hact
end
end Go.Vcg

namespace Go.Vcg
section
variable {P : Program} {T : Tb} {X Y : Nat → Prop} {w0 w : World} {c : Cx} {s : St} {a : Act}

/-- Object k is no more. -/
def Cx.drop (c : Cx) (k : Nat) : Cx := { c with live := fun j => if j = k then false else c.live j }

mutual
theorem Rd.forget {Z : Nat → Prop} (k : Nat) : ∀ (d : D) {v : Value}, Rd Z w (some c) d v → Rd Z w (some (c.drop k)) (d.forget k) v
  | .int _ _, _, h => by simpa only [D.forget, Rd] using h
  | .bool _, _, h => by simpa only [D.forget, Rd] using h
  | .str _, _, h => by simpa only [D.forget, Rd] using h
  | .nilp, _, h => by simpa only [D.forget, Rd] using h
  | .nl _, _, h => by simpa only [D.forget, Rd] using h
  | .fz _ _, _, h => by simpa only [D.forget, Rd] using h
  | .ad _ _ _ _, _, h => by simpa only [D.forget, Rd] using h
  | .any, _, _ => by simp only [D.forget, Rd]
  | .agg cs, _, h => by
    simp only [D.forget, Rd] at h ⊢
    obtain ⟨vs, h1, h2⟩ := h
    exact ⟨vs, h1, RdL.forget k cs h2⟩
  | .tup cs, _, h => by
    simp only [D.forget, Rd] at h ⊢
    obtain ⟨vs, h1, h2⟩ := h
    exact ⟨vs, h1, RdL.forget k cs h2⟩
  | .clo f cs, _, h => by
    simp only [D.forget, Rd] at h ⊢
    obtain ⟨vs, h1, h2⟩ := h
    exact ⟨vs, h1, RdL.forget k cs h2⟩
  | .wh g d, _, h => by
    simp only [D.forget, Rd] at h ⊢
    exact ⟨fun hg => Rd.forget k d (h.1 hg), h.2⟩
  | .own j off, _, h => by
    simp only [D.forget]
    split
    · simp only [Rd]
    · rename_i hj
      simp only [Rd] at h ⊢
      exact ⟨by simp [Cx.drop, hj, h.1], h.2⟩
  | .row j, _, h => by
    simp only [D.forget]
    split
    · simp only [Rd]
    · rename_i hj
      simp only [Rd] at h ⊢
      exact ⟨by simp [Cx.drop, hj, h.1], h.2⟩
  | .elr j sz i off, _, h => by
    simp only [D.forget]
    split
    · simp only [Rd]
    · rename_i hj
      simp only [Rd] at h ⊢
      exact ⟨by simp [Cx.drop, hj, h.1], h.2⟩
theorem RdL.forget {Z : Nat → Prop} (k : Nat) : ∀ (ds : List D) {vs : List Value}, RdL Z w (some c) ds vs → RdL Z w (some (c.drop k)) (forgetL k ds) vs
  | [], _, h => by simpa only [forgetL, RdL] using h
  | d :: ds, _, h => by
    simp only [forgetL, RdL] at h ⊢
    obtain ⟨v, r, h1, h2, h3⟩ := h
    exact ⟨v, r, h1, Rd.forget k d h2, RdL.forget k ds h3⟩
end

/-- A row goes over into another one: in its own block, or in a new one. -/
theorem Sat.move (h : Sat T X Y w0 c s a w) {k j : Nat} {p : Ob} (hk : s.lk k = some p) (hj : s.lk j = none ∨ j = k) {w' : World} (hE : Ext (fun b => c.ids k = some b) w w') {v : Value}
    (hb : v.ownBlock = c.ids k ∨ v.ownBlock = some w.heap.size ∧ w.heap.size < w'.heap.size) (hv : v.cells = #[v] ∧ v.oneCell' = true) {o : Ob}
    (ho : (∀ (sz : Nat) (es : List (List D)) (vs : List Value), RdE (PX X c) w sz es vs → RdE (PX X ((c.drop k).with j v.ownBlock v)) w' sz es vs) → ObOK X w' ((c.drop k).with j v.ownBlock v) j o) :
    Sat T X Y w0 ((c.drop k).with j v.ownBlock v) { tm := forgetL k s.tm, ob := obPut j o (forgetO k (obDel k s.ob)) } a w' := by
  have hl : c.live k = true := by rw [h.live, hk]; rfl
  have hjl : ∀ i, (c.drop k).live i = true → i ≠ j := by
    intro i hi e
    subst e
    simp only [Cx.drop] at hi
    split at hi
    · cases hi
    · rename_i hne
      rcases hj with hj | hj
      · rw [h.live, hj] at hi; cases hi
      · exact hne hj
  have hdl : ∀ i, (c.drop k).live i = true → i ≠ k ∧ c.live i = true := by
    intro i hi
    simp only [Cx.drop] at hi
    split at hi
    · cases hi
    · exact ⟨‹_›, hi⟩
  have hle : Cx.le (some (c.drop k)) (some ((c.drop k).with j v.ownBlock v)) := by
    intro i hi
    have := hjl i hi
    simp [Cx.with, this, hi]
  have hPX : ∀ x, x < w.heap.size → PX X ((c.drop k).with j v.ownBlock v) x → PX X c x := by
    intro x hx hp
    rcases hp with hp | ⟨i, hi, hix⟩
    · exact .inl hp
    · by_cases hij : i = j
      · subst hij
        simp [Cx.with] at hix
        rcases hb with hb | ⟨hb, _⟩
        · exact .inr ⟨k, hl, hb ▸ hix⟩
        · rw [hb] at hix; simp at hix; omega
      · simp only [Cx.with, if_neg hij] at hi hix
        exact .inr ⟨i, (hdl i hi).2, by simpa [Cx.drop] using hix⟩
  have hEp : Ext (PX X c) w w' := hE.mono fun b _ hb => .inr ⟨k, hl, hb⟩
  have r3 : ∀ (ds : List D) (vs : List Value), RdL (PX X c) w (some c) ds vs → RdL (PX X ((c.drop k).with j v.ownBlock v)) w' (some ((c.drop k).with j v.ownBlock v)) (forgetL k ds) vs :=
    fun ds vs hd => RdL.mono hEp (fun _ _ h => h) hPX _ hle (RdL.forget k ds hd)
  have r2 : ∀ (d : D) (u : Value), Rd (PX X c) w none d u → Rd (PX X ((c.drop k).with j v.ownBlock v)) w' none d u :=
    fun d u hd => Rd.mono hEp (fun _ _ h => h) hPX d (c := none) (c' := none) trivial hd
  have r4 : ∀ (sz : Nat) (es : List (List D)) (vs : List Value), RdE (PX X c) w sz es vs → RdE (PX X ((c.drop k).with j v.ownBlock v)) w' sz es vs :=
    fun sz es vs hd => RdE.mono hEp (fun _ _ h => h) hPX es hd
  have hlk : ∀ i, St.lk { tm := forgetL k s.tm, ob := obPut j o (forgetO k (obDel k s.ob)) } i = if i = j then some o else if i = k then none else (s.lk i).map (Ob.forget k) := by
    intro i
    unfold St.lk
    simp only
    rw [lk_put, lk_forget, lk_del]
    split
    · rfl
    · split <;> rfl
  refine ⟨?_, r3 _ _ h.tm, ?_, ?_, ?_, h.ext.trans' hE (fun b hb' hw => ?_), fun i => r2 _ _ (h.gl i), h.Xb, ?_, h.dfs⟩
  · intro i
    rw [hlk]
    by_cases hij : i = j
    · simp [Cx.with, hij]
    · simp only [Cx.with, if_neg hij, Cx.drop]
      split
      · simp
      · rw [h.live]; cases s.lk i <;> rfl
  · intro i q hq
    rw [hlk] at hq
    by_cases hij : i = j
    · subst hij
      simp at hq
      subst hq
      exact ho r4
    · rw [if_neg hij] at hq
      split at hq
      · cases hq
      · rename_i hik
        cases hold : s.lk i with
        | none => rw [hold] at hq; cases hq
        | some q0 =>
          rw [hold] at hq
          simp at hq
          subst hq
          have hob := h.ob i q0 hold
          have hlj : c.live i = true := by rw [h.live, hold]; rfl
          have hne : ∀ b, c.ids i = some b → ¬ c.ids k = some b := fun b h1 h2 => hik (h.inj i k b hlj hl h1 h2)
          cases q0 with
          | box cs =>
            obtain ⟨b', arr, U, e1, e2, e3⟩ := hob
            exact ⟨b', arr, U, by simp [Cx.with, hij, Cx.drop, e1], by rw [hE.block b' (Array.getElem?_eq_some_iff.1 e2).1 (hne b' e1)]; exact e2, r3 _ _ e3⟩
          | row sz es =>
            obtain ⟨vs, U, e1, e2, e3, e4⟩ := hob
            refine ⟨vs, U, ⟨e1.1, ?_⟩, r4 _ _ _ e2, e3, by simp [Cx.with, hij, Cx.drop, e4]⟩
            rcases e1.2 with g | ⟨g, cap, cur, f1, f2, f3, f4⟩
            · exact .inl (by simpa [Cx.with, hij, Cx.drop] using g)
            · have : c.ids i = some g := by rw [← e4, f1]; rfl
              exact .inr ⟨g, cap, cur, by simpa [Cx.with, hij, Cx.drop] using f1, f2, by rw [hE.block g (Array.getElem?_eq_some_iff.1 f3).1 (hne g this)]; exact f3, f4⟩
  · intro i i' x hi hi' hix hix'
    by_cases hij : i = j <;> by_cases hij' : i' = j
    · rw [hij, hij']
    · subst hij
      simp [Cx.with] at hix
      simp only [Cx.with, if_neg hij'] at hi' hix'
      obtain ⟨n1, n2⟩ := hdl i' hi'
      have hx' : c.ids i' = some x := hix'
      rcases hb with hb | ⟨hb, _⟩
      · exact absurd (h.inj i' k x n2 hl hx' (hb ▸ hix)) n1
      · rw [hb] at hix; simp at hix
        have := h.id_lt n2 hx'; omega
    · subst hij'
      simp [Cx.with] at hix'
      simp only [Cx.with, if_neg hij] at hi hix
      obtain ⟨n1, n2⟩ := hdl i hi
      have hx' : c.ids i = some x := hix
      rcases hb with hb | ⟨hb, _⟩
      · exact absurd (h.inj i k x n2 hl hx' (hb ▸ hix')) n1
      · rw [hb] at hix'; simp at hix'
        have := h.id_lt n2 hx'; omega
    · simp only [Cx.with, if_neg hij, if_neg hij'] at hi hi' hix hix'
      exact h.inj i i' x (hdl i hi).2 (hdl i' hi').2 hix hix'
  · intro i x hi hix
    by_cases hij : i = j
    · subst hij
      simp [Cx.with] at hix
      rcases hb with hb | ⟨hb, _⟩
      · exact h.fresh k x hl (hb ▸ hix)
      · rw [hb] at hix; simp at hix
        have hs := h.ext.size
        exact ⟨.inl (by omega), h.Xb x (by omega)⟩
    · simp only [Cx.with, if_neg hij] at hi hix
      exact h.fresh i x (hdl i hi).2 hix
  · rcases (h.fresh k b hl hb').1 with h1 | h1
    · exact .inl h1
    · exact .inr h1
  · intro i hi
    by_cases hij : i = j
    · subst hij; simpa [Cx.with] using hv
    · simp only [Cx.with, if_neg hij] at hi ⊢
      exact h.rv1 i (hdl i hi).2
end
end Go.Vcg

namespace Go.Vcg
section
variable {P : Program} {T : Tb} {X Y : Nat → Prop} {w0 w : World} {c : Cx} {s : St} {a : Act}

theorem Sat.news (h : Sat T X Y w0 c s a w) {sz : Nat} {d : D} {v : Value} (hr : Rd (PX X c) w (some c) d v) {ns : List (List D)} (hn : newsOf sz s.lk d = some ns) :
    ((∃ o, v = .slice o 0 0) ∧ ns = []) ∨ ∃ b off cap vs, v = .slice (some ⟨b, off, none⟩) ns.length cap ∧ CellsAt w b off vs ∧ RdE (PX X c) w sz ns vs ∧ (∀ u ∈ vs, u.oneCell' = true) := by
  unfold newsOf at hn
  split at hn
  · rename_i sz' es
    split at hn
    · rename_i hsz
      subst hsz
      obtain rfl := Option.some.inj hn
      simp only [Rd] at hr
      rcases hr with hr | ⟨b, off, cap, vs, h1, _, _, _, h2, h3, h4⟩
      · exact .inl hr
      · exact .inr ⟨b, off, cap, vs, h1, h2, h3, h4⟩
    · cases hn
  · obtain rfl := Option.some.inj hn
    simp only [Rd] at hr
    exact .inl ⟨⟨none, hr⟩, rfl⟩
  · rename_i k
    split at hn
    · rename_i sz' es hlk
      split at hn
      · rename_i hsz
        subst hsz
        obtain rfl := Option.some.inj hn
        simp only [Rd] at hr
        obtain ⟨_, rfl⟩ := hr
        obtain ⟨vs, U, e1, e2, e3, e4⟩ := h.ob k _ hlk
        rcases e1.2 with ⟨g1, g2⟩ | ⟨g, cap, cur, g1, g2, g3, g4, g5, g6, g7⟩
        · exact .inl ⟨⟨none, g1⟩, List.eq_nil_of_length_eq_zero g2⟩
        · refine .inr ⟨g, 0, cap, vs, g1, ⟨cur, U, (0, 0), g3, fun j v hv => ?_⟩, e2, e3⟩
          rw [← g7, List.getElem?_take] at hv
          split at hv
          · simpa using hv
          · simp at hv
      · cases hn
    · cases hn
  · cases hn

theorem run_append_of {o : Oper} {U : TypeId} {x y : Operand} (ho : o.op = .call { callee := .builtin .append, args := #[x, y], argTypes := #[U, U] }) {v : Value} {w' : World} (hv : (Builtin.append_ #[U, U] o.type #[a.eval x, a.eval y]).run P w = .ok v w') : (execOp a.eval o).run P w = .ok (.value v) w' := by
  unfold execOp
  simp only [ho, resolve, invoke, builtin, Sem.run_bind, Sem.run_pure, Result.andThen_ok, List.map_toArray, List.map_cons, List.map_nil, hv]

/-- An owned slice value is one cell. -/
theorem ownsRow_one {base e sz n : Nat} {v : Value} {xs : List Value} (h : w.ownsRow base e sz v n xs) : v.cells = #[v] ∧ v.oneCell' = true := by
  rcases h.2 with ⟨g, _⟩ | ⟨g, cap, cur, g1, _⟩
  · rw [g]; exact ⟨rfl, rfl⟩
  · rw [g1]; exact ⟨rfl, rfl⟩
theorem ownsRow_lt {base e sz n : Nat} {v : Value} {xs : List Value} (h : w.ownsRow base e sz v n xs) {b : Nat} (hb : v.ownBlock = some b) : b < w.heap.size := by
  rcases h.2 with ⟨g, _⟩ | ⟨g, cap, cur, g1, _, g3, _⟩
  · rw [g] at hb; cases hb
  · rw [g1] at hb
    simp [Value.ownBlock] at hb
    subst hb
    exact (Array.getElem?_eq_some_iff.1 g3).1

/-- Into the room that is there, whatever the block was made for. -/
theorem append_room {U ty e V : TypeId} {i : TypeInfo} (hu : P.underlying U = some (.slice e)) (hi : P.info? e = some i) {g n cap : Nat} {cur : Array Value} (hg : w.heap[g]? = some (.cells cur V (0, 0)))
    {ad : Addr} {m c' : Nat} {news : List Value} (hl : news.length = m * i.size) (hnews : ∀ (j : Nat) u, news[j]? = some u → w.cell? (ad.add j) = some u) (h1 : ∀ u ∈ news, u.oneCell' = true) (hroom : n + m ≤ cap) (hfit : n * i.size + news.length ≤ cur.size) :
    (Builtin.append_ #[U, U] ty #[.slice (some ⟨g, 0, none⟩) n cap, .slice (some ad) m c']).run P w = .ok (.slice (some ⟨g, 0, none⟩) (n + m) cap) (w.setRow g (cur.toList.take (n * i.size) ++ news ++ cur.toList.drop (n * i.size + news.length)).toArray) := by
  have hf := run_firstCells_some (P := P) w i.size m ad m c' news hl hnews
  have hst := run_storeCells_at (P := P) g (n * i.size) V news 0 cur w hg (by simpa using hfit) h1
  simp only [Nat.add_zero] at hst
  simp [Builtin.append_, run_underlying hu, sizeOf, typeInfo, hi, Builtin.lenOf, hroom, hf, Addr.add_lit, hst]

/-- Append to a row of one's own. -/
theorem append_own {U ty e V : TypeId} {i : TypeInfo} {z : Value} (hu : P.underlying U = some (.slice e)) (hi : P.info? e = some i) (hz : i.zero = some z) (hzs : z.cells.size = i.size)
    {v : Value} {n : Nat} {xs : List Value} (hown : w.ownsRow 0 V i.size v n xs) {ad : Addr} {m c' : Nat} {news : List Value} (hl : news.length = m * i.size) (hnews : ∀ (j : Nat) u, news[j]? = some u → w.cell? (ad.add j) = some u) (h1 : ∀ u ∈ news, u.oneCell' = true)
    (hm : n + m ≤ maxLen) (hb : (n + m) * i.bytes ≤ 140737488355328) :
    ∃ v' w' V', (Builtin.append_ #[U, U] ty #[v, .slice (some ad) m c']).run P w = .ok v' w' ∧ w'.ownsRow 0 V' i.size v' (n + m) (xs ++ news) ∧ w.grownBy w' v.ownBlock ∧ (v'.ownBlock = v.ownBlock ∨ v'.ownBlock = some w.heap.size) := by
  have hsmall : n + m ≤ 9223372036854775807 := by simp only [maxLen] at hm; omega
  have hlen : (xs ++ news).length = (n + m) * i.size := by rw [List.length_append, hown.1, hl, Nat.add_mul]
  have grown : ∀ (old : Nat), (w.drew.alloc (.cells (xs.toArray ++ news.toArray ++ Builtin.zeroCells z.cells (grownCap w (n + m) old e - (n + m))) e)).ownsRow 0 e i.size
        (.slice (some ⟨w.heap.size, 0, none⟩) (n + m) (grownCap w (n + m) old e)) (n + m) (xs ++ news) := by
    intro old
    have hge := grownCap_ge w (n + m) old e
    refine ⟨hlen, .inr ⟨w.heap.size, _, _, rfl, Nat.zero_le _, heap_alloc_new w.drew _, hge, grownCap_le_maxLen w (n + m) old e hm, ?_, ?_⟩⟩
    · simp only [Array.size_append, List.size_toArray, size_zeroCells, hzs, hown.1, hl, ← Nat.add_mul]
      congr 1; omega
    · simp only [Array.toList_append, List.append_assoc]
      rw [← List.append_assoc, ← hlen]
      exact List.take_left
  have gb : ∀ (o : Obj) (row : Option Nat), w.grownBy (w.drew.alloc o) row := fun o row => ⟨rfl, rfl, rfl, by simp, fun k hk _ => RowKit.Below.heap_alloc w.drew o k hk⟩
  rcases hown.2 with ⟨rfl, rfl⟩ | ⟨g, cap, cur, rfl, hbg, hg, hnc, hcm, hcs, htake⟩
  · have hx : xs = [] := List.eq_nil_of_length_eq_zero (by simpa using hown.1)
    subst hx
    by_cases h0 : m = 0
    · subst h0
      have hn : news = [] := List.eq_nil_of_length_eq_zero (by simpa using hl)
      subst hn
      refine ⟨.slice none 0 0, w, V, ?_, World.ownsRow_nil w 0 V i.size, ⟨rfl, rfl, rfl, Nat.le_refl _, fun _ _ _ => rfl⟩, .inl rfl⟩
      simp [Builtin.append_, run_underlying hu, sizeOf, typeInfo, hi, Builtin.lenOf, Builtin.firstCells, loadCells, loadCellsFrom]
    · have hr := run_append_nil (P := P) w U ty e i z hu hi hz ad m c' news hl hnews (by omega) (by omega) (by have := hb; simp only [Nat.zero_add] at this; omega)
      have hgr := grown 0
      simp only [Nat.zero_add, List.nil_append, Array.empty_append] at hgr ⊢
      exact ⟨_, _, e, hr, hgr, gb _ _, .inr rfl⟩
  · by_cases hroom : n + m ≤ cap
    · have hfit : n * i.size + news.length ≤ cur.size := by rw [hl, hcs, ← Nat.add_mul]; exact Nat.mul_le_mul_right _ hroom
      have hr := append_room (P := P) (ty := ty) hu hi hg hl hnews h1 hroom hfit (c' := c')
      refine ⟨_, _, V, hr, ⟨hlen, .inr ⟨g, cap, _, rfl, hbg, setRow_heap w g cur _ V _ hg, hroom, hcm, ?_, ?_⟩⟩, ⟨rfl, rfl, rfl, by simp, fun k _ hk => setRow_other w g k _ (fun e => hk (by simp [Value.ownBlock, e]))⟩, .inl rfl⟩
      · simp only [List.size_toArray, List.length_append, List.length_take, List.length_drop, Array.length_toList]; omega
      · rw [htake, ← hlen]; exact List.take_left
    · have holds : ∀ (j : Nat) u, xs[j]? = some u → w.cell? ((⟨g, 0, none⟩ : Addr).add j) = some u := hown.cells (g := g) rfl
      have hr := run_append_grow (P := P) w U ty e i z hu hi hz ⟨g, 0, none⟩ n cap xs hown.1 holds ad m c' news hl hnews (by omega) (by omega) (growslice_fits (by omega) hb)
      exact ⟨_, _, e, hr, grown cap, gb _ _, .inr rfl⟩

theorem snd_append (h : Sat T X Y w0 c s a w) {o : Oper} {U e : TypeId} {x y : Operand} {x' y' : Opd} {i : TypeInfo} {zs : List D} (ho : o.op = .call { callee := .builtin .append, args := #[x, y], argTypes := #[U, U] })
    (hu : P.underlying U = some (.slice e)) (hi : P.info? e = some i) (hz : zeroT P e = some zs) (hx : cOpd P U x = some x') (hy : cOpd P U y = some y') (hzl : zs.length = i.size) (h0 : 0 < i.size) (hg : (x'.ev T s).gu = true) (hg' : (y'.ev T s).gu = true)
    {j : Nat} (hd : o.dst = some j) {ns : List (List D)} (hn : newsOf i.size s.lk (y'.ev T s).un = some ns) :
    (∀ k sz es, (x'.ev T s).un = .row k → s.lk k = some (.row sz es) → sz = i.size → (y'.ev T s).un ≠ .row k → (es.length + ns.length) * i.bytes ≤ 140737488355328 → es.length + ns.length ≤ 9223372036854775807 → (s.lk j = none ∨ j = k) →
      ∃ v w' c', (execOp a.eval o).run P w = .ok (.value v) w' ∧ Sat T X Y w0 c' ((St.mk (forgetL k s.tm) (obPut j (.row i.size (es ++ ns)) (forgetO k (obDel k s.ob)))).set (some j) (.row j)) (a.put o.dst v) w') ∧
    (∀ z, (x'.ev T s).un = .nl z → ns.length * i.bytes ≤ 140737488355328 → ns.length ≤ 9223372036854775807 → s.lk j = none →
      ∃ v w' c', (execOp a.eval o).run P w = .ok (.value v) w' ∧ Sat T X Y w0 c' ((St.mk s.tm (obPut j (.row i.size ns) s.ob)).set (some j) (.row j)) (a.put o.dst v) w') := by
  have hrx := h.opdU hx hg
  have hry := h.opdU hy hg'
  obtain ⟨it, z, hit, hz1, hz2⟩ := zeroT_spec hz
  obtain rfl : it = i := Option.some.inj (hit.symm.trans hi)
  have hzlen : z.cells.size = it.size := by
    have := (mL_read (w := w) (Z := X) (cx := none) hz2).length
    simpa [hzl] using this
  have news := h.news hry hn
  -- the run, of a value that owns its row
  have run : ∀ (v : Value) (n : Nat) (xs : List Value) (V : TypeId), w.ownsRow 0 V it.size v n xs → a.eval x = v → (n + ns.length) * it.bytes ≤ 140737488355328 → n + ns.length ≤ 9223372036854775807 →
      ∃ v' w' vs V', (execOp a.eval o).run P w = .ok (.value v') w' ∧ w'.ownsRow 0 V' it.size v' (n + ns.length) (xs ++ vs) ∧ RdE (PX X c) w it.size ns vs ∧ (∀ u ∈ vs, u.oneCell' = true) ∧ w.grownBy w' v.ownBlock ∧ (v'.ownBlock = v.ownBlock ∨ v'.ownBlock = some w.heap.size) := by
    intro v n xs V hown hv hb hm
    rcases news with ⟨⟨o0, hy0⟩, rfl⟩ | ⟨b, off, cap, vs, hyv, hc, hE, h1⟩
    · cases o0 with
      | some ad =>
        obtain ⟨v', w', V', g1, g2, g3, g5⟩ := append_own (P := P) (ty := o.type) hu hi hz1 hzlen hown (ad := ad) (m := 0) (news := []) (by simp) (by simp) (by simp) (by simpa [maxLen] using hm) (by simpa using hb) (c' := 0)
        exact ⟨v', w', [], V', run_append_of ho (by rw [hv, hy0]; exact g1), by simpa using g2, by simp [RdE], by simp, g3, g5⟩
      | none =>
      refine ⟨v, w, [], V, run_append_of ho ?_, by simpa using hown, by simp [RdE], by simp, ⟨rfl, rfl, rfl, Nat.le_refl _, fun _ _ _ => rfl⟩, .inl rfl⟩
      rw [hv, hy0]
      rcases hown.2 with ⟨rfl, rfl⟩ | ⟨g, cap, cur, rfl, _, _, hnc, _⟩
      · simp [Builtin.append_, run_underlying hu, sizeOf, typeInfo, hi, Builtin.lenOf, Builtin.firstCells]
      · simp [Builtin.append_, run_underlying hu, sizeOf, typeInfo, hi, Builtin.lenOf, Builtin.firstCells, hnc, storeCells]
    · obtain ⟨v', w', V', g1, g2, g3, g5⟩ := append_own (P := P) (ty := o.type) hu hi hz1 hzlen hown hE.length (fun j u hu => by rw [addr_add]; exact hc.cell hu) h1 (by simpa [maxLen] using hm) hb (c' := cap)
      exact ⟨v', w', vs, V', run_append_of ho (by rw [hv, hyv]; exact g1), g2, hE, h1, g3, g5⟩
  constructor
  · intro k sz es hk hlk hsz hne hb hm hj
    subst hsz
    rw [hk] at hrx
    simp only [Rd] at hrx
    obtain ⟨vs0, V, e1, e2, e3, e4⟩ := h.ob k _ hlk
    obtain ⟨v', w', vs, V', hr, hown, hE, h1, hgr, hbl⟩ := run (c.rv k) es.length vs0 V e1 hrx.2 hb hm
    have hmv := h.move (v := v') (j := j) (o := .row it.size (es ++ ns)) hlk hj (w' := w') (⟨hgr.os, hgr.tape, hgr.output, hgr.size, fun b hb hn => hgr.block b hb (fun he => hn (by rw [← e4, ← he]))⟩)
      (by rcases hbl with hb | hb
          · exact .inl (hb.trans e4)
          · exact .inr ⟨hb, ownsRow_lt hown hb⟩) (ownsRow_one hown) (fun r4 => by
        refine ⟨vs0 ++ vs, V', by simpa [Cx.with] using hown, r4 _ _ _ (e2.append hE), fun u hu => ?_, by simp [Cx.with]⟩
        rcases List.mem_append.1 hu with hu | hu
        · exact e3 u hu
        · exact h1 u hu)
    refine ⟨v', w', (c.drop k).with j v'.ownBlock v', hr, ?_⟩
    rw [hd]
    exact hmv.put (some j) (d := .row j) (v := v') (by simp only [Rd]; exact ⟨by simp [Cx.with], by simp [Cx.with]⟩)
  · intro z0 hk hb hm hj
    rw [hk] at hrx
    simp only [Rd] at hrx
    obtain ⟨v', w', vs, V', hr, hown, hE, h1, hgr, hbl⟩ := run (.slice none 0 0) 0 [] e (World.ownsRow_nil w 0 e it.size) hrx (by simpa using hb) (by simpa using hm)
    have hnew := h.new (k := j) (o := .row it.size ns) hj (w' := w') (⟨hgr.os, hgr.tape, hgr.output, hgr.size, fun b hb _ => hgr.block b hb (by simp [Value.ownBlock])⟩) (b := v'.ownBlock)
      (fun q hq => by
        rcases hbl with hb | hb
        · rw [hb] at hq; cases hq
        · rw [hb] at hq
          obtain rfl := Option.some.inj hq
          exact ⟨Nat.le_refl _, ownsRow_lt hown hb⟩) (v := v') (ownsRow_one hown) (fun _ r4 => by
        refine ⟨vs, V', ?_, r4 _ _ _ hE, h1, by simp [Cx.with]⟩
        simpa [Cx.with] using hown)
    refine ⟨v', w', c.with j v'.ownBlock v', hr, ?_⟩
    rw [hd]
    exact hnew.put (some j) (d := .row j) (v := v') (by simp only [Rd]; exact ⟨by simp [Cx.with], by simp [Cx.with]⟩)
end
end Go.Vcg

namespace Go.Vcg

/-- A function does what is said of it. -/
def FOK (P : Program) (T : Tb) (f : Nat) (sp : Sp) : Prop :=
  ∀ (X : Nat → Prop) (w : World) (args : Array Value) (ds : List D), (∀ x, w.heap.size ≤ x → ¬ X x) → (∀ i, Rd X w none (T.gl i) (.pointer (some ⟨i, 0, none⟩))) → RdL X w none ds args.toList → sp.pre ds →
    Calls P f args w fun e w' => ∃ v, e = .returned v ∧ Rd X w' none (sp.F ds) v ∧ Ext (fun _ => False) w w'

/-- A function that is entered. -/
def Enters (P : Program) (f : Nat) : Prop := ∀ (argv : Array Value) (w : World), (callFunc f argv).run P w = .ok (.enter f argv) w

theorem enters_of {P : Program} {f : Nat} {fn : Func} (hf : P.funcs[f]? = some fn) (hb : fn.body.isSome = true) (hn : (fn.name == "runtime.NumGoroutine") = false) : Enters P f := by
  intro argv w
  have h1 : ¬ fn.name = "runtime.NumGoroutine" := by simpa using hn
  have h2 : ¬ fn.body = none := by intro h; rw [h] at hb; cases hb
  simp [callFunc, program, Sem.run, hf, h1, h2]

def TbOK (P : Program) (kf : Nat → Nat) (T : Tb) : Prop := ∀ f sp, T.sp (kf f) = some sp → FOK P T f sp ∧ Enters P f

section
variable {P : Program} {kf : Nat → Nat} {T : Tb} {X Y : Nat → Prop} {w0 w : World} {c : Cx} {s : St} {a : Act}

/-! ### Handing on -/
theorem Sat.row_open (h : Sat T X Y w0 c s a w) {Z : Nat → Prop} (hZ : ∀ b, b < w.heap.size → Z b → PX X c b) {k : Nat} (hk' : ∀ b, c.ids k = some b → ¬ Z b) {sz : Nat} {es : List (List D)} (hk : s.lk k = some (.row sz es)) : Rd Z w none (.fz sz es) (c.rv k) := by
  obtain ⟨vs, U, e1, e2, e3, e4⟩ := h.ob k _ hk
  simp only [Rd]
  rcases e1.2 with ⟨g1, g2⟩ | ⟨g, cap, cur, g1, g2, g3, g4, g5, g6, g7⟩
  · exact .inl ⟨⟨none, g1⟩, List.eq_nil_of_length_eq_zero g2⟩
  · refine .inr ⟨g, 0, cap, vs, g1, g4, g5, hk' g (by rw [← e4, g1]; rfl), ⟨cur, U, (0, 0), g3, fun j v hv => ?_⟩, RdE.mono (Ext.refl (fun _ => False) w) (fun _ _ h => h.elim) hZ _ e2, e3⟩
    rw [← g7, List.getElem?_take] at hv
    split at hv
    · simpa using hv
    · simp at hv

mutual
theorem Sat.out1 (h : Sat T X Y w0 c s a w) {Z : Nat → Prop} (hZ : ∀ b, b < w.heap.size → Z b → PX X c b) : ∀ (d : D) {v : Value}, (d.norow = true ∨ ∀ k b, c.live k = true → c.ids k = some b → ¬ Z b) → Rd (PX X c) w (some c) d v → (d.out s.lk).clos = true → Rd Z w none (d.out s.lk) v
  | .int _ _, v, _, hr, _ => by simpa only [D.out, Rd] using hr
  | .bool _, v, _, hr, _ => by simpa only [D.out, Rd] using hr
  | .str _, v, _, hr, _ => by simpa only [D.out, Rd] using hr
  | .nilp, v, _, hr, _ => by simpa only [D.out, Rd] using hr
  | .nl sz, v, _, hr, _ => by simp only [D.out, Rd] at hr ⊢; exact .inl ⟨⟨none, hr⟩, trivial⟩
  | .any, v, _, _, _ => by simp only [D.out, Rd]
  | .fz sz es, v, _, hr, _ => by
    simp only [D.out]
    have := Rd.mono (Ext.refl (fun _ => False) w) (fun _ _ h => h.elim) hZ (.fz sz es) (c := some c) (c' := some c) (Cx.le_refl _) hr
    simpa only [Rd] using this
  | .ad sz es i o, v, _, hr, _ => by
    simp only [D.out]
    have := Rd.mono (Ext.refl (fun _ => False) w) (fun _ _ h => h.elim) hZ (.ad sz es i o) (c := some c) (c' := some c) (Cx.le_refl _) hr
    simpa only [Rd] using this
  | .agg cs, v, hn, hr, hc => by
    simp only [D.out, Rd, D.norow, D.clos] at hn hr hc ⊢
    obtain ⟨vs, h1, h2⟩ := hr
    exact ⟨vs, h1, Sat.outs h hZ cs hn h2 hc⟩
  | .tup cs, v, hn, hr, hc => by
    simp only [D.out, Rd, D.norow, D.clos] at hn hr hc ⊢
    obtain ⟨vs, h1, h2⟩ := hr
    exact ⟨vs, h1, Sat.outs h hZ cs hn h2 hc⟩
  | .clo f cs, v, hn, hr, hc => by
    simp only [D.out, Rd, D.norow, D.clos] at hn hr hc ⊢
    obtain ⟨vs, h1, h2⟩ := hr
    exact ⟨vs, h1, Sat.outs h hZ cs hn h2 hc⟩
  | .own k o, v, _, _, hc => by simp [D.out, D.clos] at hc
  | .elr k sz i o, v, _, _, hc => by simp [D.out, D.clos] at hc
  | .wh g d, v, _, _, hc => by simp [D.out, D.clos] at hc
  | .row k, v, hn, hr, hc => by
    simp only [D.out] at hc ⊢
    split at hc
    · rename_i sz es hk
      simp only [Rd] at hr
      rw [hr.2]
      rcases hn with hn | hn
      · simp [D.norow] at hn
      · exact h.row_open hZ (fun b hb => hn k b hr.1 hb) hk
    · simp [D.clos] at hc
theorem Sat.outs (h : Sat T X Y w0 c s a w) {Z : Nat → Prop} (hZ : ∀ b, b < w.heap.size → Z b → PX X c b) : ∀ (ds : List D) {vs : List Value}, (norowL ds = true ∨ ∀ k b, c.live k = true → c.ids k = some b → ¬ Z b) → RdL (PX X c) w (some c) ds vs → closL (outL s.lk ds) = true → RdL Z w none (outL s.lk ds) vs
  | [], _, _, hr, _ => by simpa only [outL, RdL] using hr
  | d :: ds, _, hn, hr, hc => by
    simp only [outL, RdL, norowL, closL, Bool.and_eq_true] at hn hr hc ⊢
    obtain ⟨v, r, h1, h2, h3⟩ := hr
    exact ⟨v, r, h1, Sat.out1 h hZ d (hn.imp (·.1) id) h2 hc.1, Sat.outs h hZ ds (hn.imp (·.2) id) h3 hc.2⟩
end

mutual
theorem Rd.scal {Z Z' : Nat → Prop} {w w' : World} {cx cx' : Option Cx} : ∀ (d : D) {v : Value}, d.scal = true → Rd Z w cx d v → Rd Z' w' cx' d v
  | .int _ _, _, _, h => by simpa only [Rd] using h
  | .bool _, _, _, h => by simpa only [Rd] using h
  | .str _, _, _, h => by simpa only [Rd] using h
  | .nilp, _, _, h => by simpa only [Rd] using h
  | .nl _, _, _, h => by simpa only [Rd] using h
  | .agg cs, _, hs, h => by
    simp only [Rd, D.scal] at h hs ⊢
    obtain ⟨vs, h1, h2⟩ := h
    exact ⟨vs, h1, RdL.scal cs hs h2⟩
  | .tup cs, _, hs, h => by
    simp only [Rd, D.scal] at h hs ⊢
    obtain ⟨vs, h1, h2⟩ := h
    exact ⟨vs, h1, RdL.scal cs hs h2⟩
  | .any, _, hs, _ | .fz _ _, _, hs, _ | .clo _ _, _, hs, _ | .own _ _, _, hs, _ | .row _, _, hs, _ | .elr _ _ _ _, _, hs, _ | .ad _ _ _ _, _, hs, _ | .wh _ _, _, hs, _ => by simp [D.scal] at hs
theorem RdL.scal {Z Z' : Nat → Prop} {w w' : World} {cx cx' : Option Cx} : ∀ (ds : List D) {vs : List Value}, scalL ds = true → RdL Z w cx ds vs → RdL Z' w' cx' ds vs
  | [], _, _, h => by simpa only [RdL] using h
  | d :: ds, _, hs, h => by
    simp only [RdL, scalL, Bool.and_eq_true] at h hs ⊢
    obtain ⟨v, r, h1, h2, h3⟩ := h
    exact ⟨v, r, h1, Rd.scal d hs.1 h2, RdL.scal ds hs.2 h3⟩
end

theorem cArgs_read (h : Sat T X Y w0 c s a w) : ∀ {Ts : List TypeId} {xs : List Operand} {ys : List Opd}, cArgs P Ts xs = some ys → gus T s ys → RdL (PX X c) w (some c) (ys.map fun y => (y.ev T s).un) (xs.map a.eval)
  | [], [], _, hc, _ => by simp [cArgs] at hc; subst hc; simp [RdL]
  | [], _ :: _, _, hc, _ => by simp [cArgs] at hc
  | _ :: _, [], _, hc, _ => by simp [cArgs] at hc
  | U :: Ts, x :: xs, ys, hc, hg => by
    simp only [cArgs] at hc
    split at hc
    · rename_i y l hy hl
      simp at hc
      subst hc
      simp only [gus] at hg
      simp only [List.map_cons, RdL]
      exact ⟨_, _, rfl, h.opdU hy hg.1, cArgs_read h hl hg.2⟩
    · simp at hc

theorem outL_map (lk : Nat → Option Ob) : ∀ (ds : List D), outL lk ds = ds.map (D.out lk)
  | [] => rfl
  | d :: ds => by simp [outL, outL_map lk ds]

theorem snd_call (hT : TbOK P kf T) (h : Sat T X Y w0 c s a w) {o : Oper} {f : Nat} {args : Array Operand} {argTypes : Array TypeId} {ys : List Opd} {sp : Sp} (ho : o.op = .call { callee := .value (.func f), args, argTypes }) (hc : cArgs P argTypes.toList args.toList = some ys) (hg : gus T s ys) (hsp : T.sp (kf f) = some sp)
    (hpre : sp.pre (ys.map fun x => (x.ev T s).un.out s.lk)) (hcl : closL (ys.map fun x => (x.ev T s).un.out s.lk) = true) (hnr : norowL (ys.map fun x => (x.ev T s).un) = false → (sp.F (ys.map fun x => (x.ev T s).un.out s.lk)).scal = true)
    {K : Act → World → Prop} {Q : Exit → Act → World → Prop} (hK : ∀ v w', Sat T X Y w0 c s a w' → Rd (PX X c) w' (some c) (sp.F (ys.map fun x => (x.ev T s).un.out s.lk)) v → K (a.put o.dst v) w') : o.wp P a w K Q := by
  have hrd := cArgs_read h hc hg
  have hmap : (ys.map fun x => (x.ev T s).un.out s.lk) = outL s.lk (ys.map fun y => (y.ev T s).un) := by rw [outL_map, List.map_map]; rfl
  have hrun : (execOp a.eval o).run P w = .ok (.enter f (args.map a.eval)) w := by
    simp only [execOp, ho, resolve, Act.eval, Deferred.ofValue, Sem.run_bind, Sem.run_pure, Result.andThen_ok, invoke]
    simpa using (hT f sp hsp).2 (args.map a.eval) w
  unfold Oper.wp
  rw [hrun, Oper.upon_enter]
  have hw0 := h.ext.size
  cases hrow : norowL (ys.map fun x => (x.ev T s).un) with
  | true =>
    have hargs : RdL (PX X c) w none (ys.map fun x => (x.ev T s).un.out s.lk) (args.map a.eval).toList := by
      rw [hmap] at hcl ⊢
      rw [Array.toList_map]
      exact Sat.outs h (fun _ _ h => h) _ (.inl hrow) hrd hcl
    refine ((hT f sp hsp).1 (PX X c) w _ _ (fun x hx hp => ?_) h.gl hargs hpre).mono fun e w' ⟨v, he, hv, hE⟩ => ?_
    · rcases hp with hp | ⟨k, hl, hk⟩
      · exact h.Xb x (by omega) hp
      · have := h.id_lt hl hk; omega
    · subst he
      exact hK v w' (h.world hE) hv.closed
  | false =>
    have hargs : RdL (fun _ => False) w none (ys.map fun x => (x.ev T s).un.out s.lk) (args.map a.eval).toList := by
      rw [hmap] at hcl ⊢
      rw [Array.toList_map]
      exact Sat.outs h (fun _ _ h => h.elim) _ (.inr fun _ _ _ _ h => h) hrd hcl
    refine ((hT f sp hsp).1 (fun _ => False) w _ _ (fun _ _ h => h) (fun i => Rd.mono (Ext.refl (fun _ => False) w) (fun _ _ h => h.elim) (fun _ _ h => h.elim) _ (c := none) (c' := none) trivial (h.gl i)) hargs hpre).mono fun e w' ⟨v, he, hv, hE⟩ => ?_
    subst he
    exact hK v w' (h.world hE) (Rd.scal _ (hnr hrow) hv)

/-! ### One operation -/
theorem undef_notBool (b : Bool) : undef ≠ .bool b := by unfold undef; intro h; cases h

/-- The guard's Bool says whether the operation is carried out. -/
theorem Sat.guard (h : Sat T X Y w0 c s a w) {ops : Array Oper} {o : Oper} {g : Option (Nat × Bool)} (hg : guardSlot ops o.guard = some g) {G : Bool} (hG : gd s g = some G) : Region.wanted o (yielded ops a.tmps) = G := by
  unfold Region.wanted
  cases ho : o.guard with
  | none =>
    rw [ho] at hg
    simp [guardSlot] at hg
    subst hg
    simp [gd] at hG
    simp [hG]
  | some jw =>
    obtain ⟨j, want⟩ := jw
    rw [ho] at hg
    simp only [guardSlot] at hg
    cases hd : (ops[j]?).bind (·.dst) with
    | none => simp [hd] at hg
    | some d =>
      simp [hd] at hg
      subst hg
      simp only [gd] at hG
      have hr := h.getT d
      have hy : ∀ b, a.tmps.getD d undef = .bool b → yielded ops a.tmps j = some b := by
        intro b hb
        unfold yielded
        rw [hd]
        simp only [Option.bind_some]
        cases ht : a.tmps[d]? with
        | none => simp [ht] at hb; exact absurd hb (undef_notBool b)
        | some v => simp [ht] at hb; subst hb; rfl
      have hn : a.tmps.getD d undef = undef → yielded ops a.tmps j = none := by
        intro hb
        unfold yielded
        rw [hd]
        simp only [Option.bind_some]
        cases ht : a.tmps[d]? with
        | none => rfl
        | some v => simp [ht] at hb; subst hb; rfl
      simp only
      split at hG
      · rename_i b hs
        rw [hs] at hr
        simp only [Rd] at hr
        rw [hy b hr]
        simp at hG
        rw [← hG]
        cases b <;> cases want <;> rfl
      · rename_i g b hs
        rw [hs] at hr
        simp only [Rd] at hr
        simp at hG
        rw [← hG]
        cases g with
        | true => rw [hy b (hr.1 rfl)]; cases b <;> cases want <;> rfl
        | false => rw [hn (hr.2 rfl)]; rfl
      · cases hG

theorem wrap_read {Z : Nat → Prop} {cx : Option Cx} {g : Option (Nat × Bool)} {G : Bool} {d : D} {v : Value} (h : Rd Z w cx d v) (hG : G = true) : Rd Z w cx (wrapD g G d) v := by
  unfold wrapD
  split
  · exact h
  · simp only [Rd]; exact ⟨fun _ => h, fun e => by rw [hG] at e; cases e⟩
theorem wrap_undef {Z : Nat → Prop} {cx : Option Cx} {jw : Nat × Bool} {d : D} : Rd Z w cx (wrapD (some jw) false d) undef := by
  simp only [wrapD, Rd]; exact ⟨(fun e => by cases e), fun _ => trivial⟩

theorem pickD_read {Z : Nat → Prop} {cx : Option Cx} {b : Bool} {d e r : D} (h : pickD b d e = some r) {u v : Value} (hd : b = true → Rd Z w cx d u) (he : b = false → Rd Z w cx e v) : Rd Z w cx r (if b then u else v) := by
  unfold pickD at h
  split at h
  · obtain rfl := Option.some.inj h
    cases b <;> simp only [Rd] at hd he ⊢ <;> simp_all
  · split at h
    · rename_i hk
      subst hk
      obtain rfl := Option.some.inj h
      cases b <;> simp only [Rd] at hd he ⊢ <;> simp_all
    · cases h
  · cases h

theorem snd_pick (h : Sat T X Y w0 c s a w) {o : Oper} {x y z : Operand} {U V W : TypeId} {x' y' z' : Opd} (ho : o.op = .pick x y z) (hx : cOpd P U x = some x') (hy : cOpd P V y = some y') (hz : cOpd P W z = some z') {b : Bool} (hb : (x'.ev T s).un = .bool b) {d : D} (hd : pickD b (y'.ev T s).un (z'.ev T s).un = some d)
    (hgx : (x'.ev T s).gu = true) (hgy : b = true → (y'.ev T s).gu = true) (hgz : b = false → (z'.ev T s).gu = true) : Yld P X c a w o d := by
  have hrx := h.opdU hx hgx
  rw [hb] at hrx
  simp only [Rd] at hrx
  refine ⟨if b then a.eval y else a.eval z, ?_, pickD_read hd (fun e => h.opdU hy (hgy e)) (fun e => h.opdU hz (hgz e))⟩
  simp only [execOp, ho, hrx, asBool, Sem.run_bind, Sem.run_pure, Result.andThen_ok]
end
end Go.Vcg

namespace Go.Vcg

def cOper (P : Program) (kf : Nat → Nat) (ops : Array Oper) (o : Oper) : Option IOper :=
  match guardSlot ops o.guard, cOp P kf o.op o.type with
  | some g, some p => some ⟨o.dst, g, p⟩
  | _, _ => none

section
variable {P : Program} {kf : Nat → Nat} {T : Tb} {X Y : Nat → Prop} {w0 w : World} {c : Cx} {s : St} {a : Act}

/-- What an operation that is carried out does. -/
def ActOK (P : Program) (T : Tb) (X Y : Nat → Prop) (w0 : World) (c : Cx) (s : St) (a : Act) (w : World) (o : Oper) : Eff → Prop
  | .val d => Yld P X c a w o d
  | .new ob ptr => ∀ k, o.dst = some k → s.lk k = none → ∃ v w' c', (execOp a.eval o).run P w = .ok (.value v) w' ∧ Sat T X Y w0 c' ((St.mk s.tm (obPut k ob s.ob)).set (some k) (if ptr then .own k 0 else .row k)) (a.put o.dst v) w'
  | .put k ob => o.dst = none → ∃ w', (execOp a.eval o).run P w = .ok .skip w' ∧ Sat T X Y w0 c { s with ob := obPut k ob s.ob } (a.put o.dst undef) w'
  | .mv none ob => ∀ j, o.dst = some j → s.lk j = none → ∃ v w' c', (execOp a.eval o).run P w = .ok (.value v) w' ∧ Sat T X Y w0 c' ((St.mk s.tm (obPut j ob s.ob)).set (some j) (.row j)) (a.put o.dst v) w'
  | .mv (some k) ob => ∀ j, o.dst = some j → (s.lk j = none ∨ j = k) → ∃ v w' c', (execOp a.eval o).run P w = .ok (.value v) w' ∧ Sat T X Y w0 c' ((St.mk (forgetL k s.tm) (obPut j ob (forgetO k (obDel k s.ob)))).set (some j) (.row j)) (a.put o.dst v) w'

theorem gus_mem : ∀ {l : List Opd}, gus T s l → ∀ x ∈ l, (x.ev T s).gu = true
  | [], _, x, hx => by simp at hx
  | y :: r, h, x, hx => by
    simp only [gus] at h
    rcases List.mem_cons.1 hx with rfl | hx
    · exact h.1
    · exact gus_mem h.2 x hx

/-- An effect that yields a datum alone. -/
theorem ActOK.val_of {o : Oper} {r : Option (Prop × Eff)} {φ : Prop} {e : Eff} (hr : r = some (φ, e)) (hv : ∀ φ e, r = some (φ, e) → ∃ d, e = .val d) (hy : ∀ d, r = some (φ, .val d) → Yld P X c a w o d) : ActOK P T X Y w0 c s a w o e := by
  obtain ⟨d, rfl⟩ := hv φ e hr
  exact hy d hr

theorem act_val {ip : IOp} {ev : Opd → D} {lk : Nat → Option Ob} (hip : (match ip with | .alloc _ | .box _ | .bslice .. | .store .. | .append .. | .pick .. | .call .. => false | _ => true) = true) : ∀ φ e, act T ip ev lk = some (φ, e) → ∃ d, e = .val d := by
  intro φ e h
  cases ip <;> simp only [act] at h hip <;> (first | (cases hip; done) | skip) <;> (repeat' (split at h)) <;> (first | (cases h; done) | (simp only [Option.map_eq_some_iff] at h; obtain ⟨r, _, h⟩ := h; cases h; exact ⟨_, rfl⟩) | (cases h; exact ⟨_, rfl⟩))

theorem act_ok (h : Sat T X Y w0 c s a w) {o : Oper} {ip : IOp} (hc : cOp P kf o.op o.type = some ip) {φ : Prop} {e : Eff} (hact : act T ip (fun x => (x.ev T s).un) s.lk = some (φ, e)) (hφ : φ) (hg : gus T s ip.opds) : ActOK P T X Y w0 c s a w o e := by
  cases hop : o.op <;> rw [hop] at hc <;> simp only [cOp] at hc
  case move x =>
    simp only [Option.map_eq_some_iff] at hc
    obtain ⟨y, hy, rfl⟩ := hc
    simp only [act, Option.some.injEq, Prod.mk.injEq] at hact
    obtain ⟨_, rfl⟩ := hact
    simp only [IOp.opds, gus] at hg
    exact snd_mov h (.inl hop) hy hg.1
  case assign x =>
    simp only [Option.map_eq_some_iff] at hc
    obtain ⟨y, hy, rfl⟩ := hc
    simp only [act, Option.some.injEq, Prod.mk.injEq] at hact
    obtain ⟨_, rfl⟩ := hact
    simp only [IOp.opds, gus] at hg
    exact snd_mov h (.inr hop) hy hg.1
  case pick x y z =>
    split at hc <;> cases hc
    simp [act] at hact
  case alloc U =>
    simp only [Option.map_eq_some_iff] at hc
    obtain ⟨cs, hz, rfl⟩ := hc
    simp only [act, Option.some.injEq, Prod.mk.injEq] at hact
    obtain ⟨_, rfl⟩ := hact
    intro k hd hk
    exact snd_alloc h hop hz hd hk
  case box U x =>
    simp only [Option.map_eq_some_iff] at hc
    obtain ⟨y, hy, rfl⟩ := hc
    simp only [act, Option.some.injEq, Prod.mk.injEq] at hact
    obtain ⟨rfl, rfl⟩ := hact
    simp only [IOp.opds, gus] at hg
    intro k hd hk
    exact snd_box h hop hy hg.1 hφ hd hk
  case build U parts =>
    split at hc
    · rename_i fs z ps hu hz hp
      split at hc
      · rename_i hfs
        cases hc
        refine ActOK.val_of hact (act_val rfl) fun d hd => snd_build h hop hu hfs hz hp ?_ hd hφ
        simpa [IOp.opds] using hg
      · cases hc
    · cases hc
  case buildSlice U n parts =>
    split at hc
    · rename_i e hu
      split at hc
      · rename_i z sz ps hz hsz hp
        split at hc
        · rename_i hcond
          cases hc
          simp only [act] at hact
          split at hact
          · rename_i ψ es hf
            simp only [Option.some.injEq, Prod.mk.injEq] at hact
            obtain ⟨rfl, rfl⟩ := hact
            intro k hd hk
            exact snd_bslice h hop hu hz hsz hp hcond.1 hcond.2.1 hcond.2.2.1 hcond.2.2.2 (by simpa [IOp.opds] using hg) hf hφ hd hk
          · cases hact
        · cases hc
      · cases hc
    · cases hc
  case load U x =>
    split at hc
    · rename_i ag n y ha hn hy
      cases hc
      simp only [IOp.opds, gus] at hg
      exact ActOK.val_of hact (act_val rfl) fun d hd => snd_load h hop ha hn hy hg.1 hd hφ
    · cases hc
  case store U x v =>
    split at hc
    · rename_i n y z hn hy hz
      cases hc
      simp only [IOp.opds, gus] at hg
      have hp : ∃ k ob, e = .put k ob := by
        simp only [act] at hact
        (repeat' (split at hact)) <;> first | (cases hact; done) | (cases hact; exact ⟨_, _, rfl⟩)
      obtain ⟨k, ob, rfl⟩ := hp
      intro hd
      exact snd_store h hop hn hy hz hg.1 hg.2.1 hd hact hφ
    · cases hc
  case nilCheck x =>
    simp only [Option.map_eq_some_iff] at hc
    obtain ⟨y, hy, rfl⟩ := hc
    simp only [IOp.opds, gus] at hg
    exact ActOK.val_of hact (act_val rfl) fun d hd => snd_nilc h hop hy hg.1 hd hφ
  case binOp op U x y U' =>
    split at hc
    · rename_i x' y' hx hy
      split at hc
      · cases hc
        simp only [IOp.opds, gus] at hg
        exact ActOK.val_of hact (act_val rfl) fun d hd => snd_bin h hop hx hy hg.1 hg.2.1 hd hφ
      · rename_i hu
        split at hc <;> cases hc
        · simp only [IOp.opds, gus] at hg
          exact ActOK.val_of hact (act_val rfl) fun d hd => snd_eqb h hu (neg := false) hop hx hy hg.1 hg.2.1 hd
        · simp only [IOp.opds, gus] at hg
          exact ActOK.val_of hact (act_val rfl) fun d hd => snd_eqb h hu (neg := true) hop hx hy hg.1 hg.2.1 hd
      · rename_i fs hu
        have hag : aggT P U = some true := by simp [aggT, hu]
        split at hc
        · split at hc
          · rename_i hq
            simp only [Option.map_eq_some_iff] at hc
            obtain ⟨ks, hk, rfl⟩ := hc
            simp only [IOp.opds, gus] at hg
            exact ActOK.val_of hact (act_val rfl) fun d hd => snd_eqa h hag hq hk (neg := false) hop hx hy hg.1 hg.2.1 hd
          · cases hc
        · split at hc
          · rename_i hq
            simp only [Option.map_eq_some_iff] at hc
            obtain ⟨ks, hk, rfl⟩ := hc
            simp only [IOp.opds, gus] at hg
            exact ActOK.val_of hact (act_val rfl) fun d hd => snd_eqa h hag hq hk (neg := true) hop hx hy hg.1 hg.2.1 hd
          · cases hc
        · cases hc
      · cases hc
    · cases hc
  case unOp op U x =>
    simp only [Option.map_eq_some_iff] at hc
    obtain ⟨y, hy, rfl⟩ := hc
    simp only [IOp.opds, gus] at hg
    exact ActOK.val_of hact (act_val rfl) fun d hd => snd_un h hop hy hg.1 hd hφ
  case convert U V x =>
    split at hc
    · rename_i k0 k y hU hV hy
      cases hc
      simp only [IOp.opds, gus] at hg
      exact ActOK.val_of hact (act_val rfl) fun d hd => snd_conv h hop ⟨_, hU⟩ hV hy hg.1 hd hφ
    · cases hc
  case fieldAddr U x i =>
    split at hc
    · rename_i f hf
      split at hc
      · rename_i n y hn hy
        split at hc
        · rename_i h0
          cases hc
          simp only [IOp.opds, gus] at hg
          exact ActOK.val_of hact (act_val rfl) fun d hd => snd_faddr h hop hf hn h0 hy hg.1 hd hφ
        · cases hc
      · cases hc
    · cases hc
  case field U x i =>
    split at hc
    · rename_i f hf
      split at hc
      · rename_i ag n y ha hn hy
        cases hc
        simp only [IOp.opds, gus] at hg
        exact ActOK.val_of hact (act_val rfl) fun d hd => snd_field h hop hf ha hn hy hg.1 hd hφ
      · cases hc
    · cases hc
  case indexAddr U x i =>
    split at hc
    · rename_i e' hu
      split at hc
      · rename_i n y j hn hy hj
        cases hc
        simp only [IOp.opds, gus] at hg
        exact ActOK.val_of hact (act_val rfl) fun d hd => snd_iaddr h hop hu hn hy hj hg.1 hg.2.1 hd hφ
      · cases hc
    · rename_i m e' hu
      split at hc
      · rename_i n y j hn hy hj
        cases hc
        simp only [IOp.opds, gus] at hg
        exact ActOK.val_of hact (act_val rfl) fun d hd => snd_iarr h hop hu hn hy hj hg.1 hg.2.1 hd hφ
      · cases hc
    · cases hc
  case slice U x lo hi mx =>
    cases mx with
    | some _ => simp at hc
    | none =>
      simp only [Option.isSome_none, Bool.false_eq_true, if_false] at hc
      split at hc
      · rename_i e' hu
        split at hc
        · rename_i n y hn hy hl hh
          cases hc
          exact ActOK.val_of hact (act_val rfl) fun d hd => snd_slc h hop hu hn hy (by simpa using hl) (by simpa using hh) (by simpa [IOp.opds] using hg) hd hφ
        · rename_i n y l hn hy hl hh
          cases hc
          exact ActOK.val_of hact (act_val rfl) fun d hd => snd_slc h hop hu hn hy (by simpa using hl) (by simpa using hh) (by simpa [IOp.opds] using hg) hd hφ
        · rename_i n y l hn hy hl hh
          cases hc
          exact ActOK.val_of hact (act_val rfl) fun d hd => snd_slc h hop hu hn hy (by simpa using hl) (by simpa using hh) (by simpa [IOp.opds] using hg) hd hφ
        · rename_i n y l m hn hy hl hh
          cases hc
          exact ActOK.val_of hact (act_val rfl) fun d hd => snd_slc h hop hu hn hy (by simpa using hl) (by simpa using hh) (by simpa [IOp.opds] using hg) hd hφ
        · cases hc
      · cases hc
  case extract x i =>
    simp only [Option.map_eq_some_iff] at hc
    obtain ⟨y, hy, rfl⟩ := hc
    simp only [IOp.opds, gus] at hg
    exact ActOK.val_of hact (act_val rfl) fun d hd => snd_ext h hop hy hg.1 hd hφ
  case call cl =>
    obtain ⟨callee, args, argTypes⟩ := cl
    unfold cCall at hc
    split at hc
    · simp only [Option.map_eq_some_iff] at hc
      obtain ⟨ys, _, rfl⟩ := hc
      simp [act] at hact
    · rename_i b hb
      simp only at hb hc
      subst hb
      unfold cBuiltin at hc
      split at hc
      · rename_i x t ha ht
        obtain rfl : args = #[x] := by cases args; simp_all
        obtain rfl : argTypes = #[t] := by cases argTypes; simp_all
        split at hc
        · rename_i e' hu
          simp only [Option.map_eq_some_iff] at hc
          obtain ⟨y, hy, rfl⟩ := hc
          simp only [IOp.opds, gus] at hg
          exact ActOK.val_of hact (act_val rfl) fun d hd => snd_len h hop hu hy hg.1 hd
        · rename_i hu
          simp only [Option.map_eq_some_iff] at hc
          obtain ⟨y, hy, rfl⟩ := hc
          simp only [IOp.opds, gus] at hg
          exact ActOK.val_of hact (act_val rfl) fun d hd => snd_lens h hop hu hy hg.1 hd
        · cases hc
      · rename_i x y t u ha ht
        obtain rfl : args = #[x, y] := by cases args; simp_all
        obtain rfl : argTypes = #[t, u] := by cases argTypes; simp_all
        split at hc
        · rename_i htu
          subst htu
          split at hc
          · rename_i e' hu
            split at hc
            · rename_i i z x' y' hi hz hx hy
              split at hc
              · rename_i hcond
                cases hc
                simp only [IOp.opds, gus] at hg
                have key : ∀ j, o.dst = some j → ∀ ns, newsOf i.size s.lk (y'.ev T s).un = some ns → _ := fun j hd ns hn => snd_append h hop hu hi hz hx hy hcond.1 hcond.2 hg.1 hg.2.1 hd hn
                simp only [act] at hact
                split at hact
                · rename_i k ns hk hn
                  split at hact
                  · rename_i sz' es hlk
                    simp only [Option.some.injEq, Prod.mk.injEq] at hact
                    obtain ⟨rfl, rfl⟩ := hact
                    obtain ⟨h1, h2, h3, h4⟩ := hφ
                    intro j hd hj
                    exact (key j hd ns hn).1 k sz' es hk hlk h1 h2 h3 h4 hj
                  · cases hact
                · rename_i z0 ns hk hn
                  simp only [Option.some.injEq, Prod.mk.injEq] at hact
                  obtain ⟨rfl, rfl⟩ := hact
                  intro j hd hj
                  exact (key j hd ns hn).2 z0 hk hφ.1 hφ.2 hj
                · cases hact
              · cases hc
            · cases hc
          · cases hc
        · cases hc
      · rename_i x y t u ha ht
        obtain rfl : args = #[x, y] := by cases args; simp_all
        obtain rfl : argTypes = #[t, u] := by cases argTypes; simp_all
        split at hc
        · rename_i x' y' hx hy
          cases hc
          simp only [IOp.opds, gus] at hg
          exact ActOK.val_of hact (act_val rfl) fun d hd => snd_mm h (mx := true) hop hx hy hg.1 hg.2.1 hd
        · cases hc
      · rename_i x y t u ha ht
        obtain rfl : args = #[x, y] := by cases args; simp_all
        obtain rfl : argTypes = #[t, u] := by cases argTypes; simp_all
        split at hc
        · rename_i x' y' hx hy
          cases hc
          simp only [IOp.opds, gus] at hg
          exact ActOK.val_of hact (act_val rfl) fun d hd => snd_mm h (mx := false) hop hx hy hg.1 hg.2.1 hd
        · cases hc
      · cases hc
    · cases hc
  all_goals cases hc
end
end Go.Vcg

namespace Go.Vcg
section
variable {P : Program} {kf : Nat → Nat} {T : Tb} {X Y : Nat → Prop} {w0 w : World} {c : Cx} {s : St} {a : Act}

theorem cOper_spec {ops : Array Oper} {o : Oper} {io : IOper} (h : cOper P kf ops o = some io) : io.dst = o.dst ∧ guardSlot ops o.guard = some io.guard ∧ cOp P kf o.op o.type = some io.op := by
  unfold cOper at h
  split at h
  · cases h; exact ⟨rfl, ‹_›, ‹_›⟩
  · cases h

theorem cCall_call {cl : Call} {k : Nat} {ys : List Opd} (h : cCall P kf cl = some (.call k ys)) : ∃ f, kf f = k ∧ cl.callee = .value (.func f) ∧ cArgs P cl.argTypes.toList cl.args.toList = some ys := by
  unfold cCall at h
  split at h
  · rename_i g hg
    simp only [Option.map_eq_some_iff] at h
    obtain ⟨zs, hz, h⟩ := h
    cases h
    exact ⟨g, rfl, hg, hz⟩
  · unfold cBuiltin at h
    (repeat' (split at h)) <;> (first | (cases h; done) | (simp only [Option.map_eq_some_iff] at h; obtain ⟨_, _, h⟩ := h; cases h))
  · cases h

theorem cOp_call {op : Op} {U : TypeId} {k : Nat} {ys : List Opd} (h : cOp P kf op U = some (.call k ys)) : ∃ f args argTypes, kf f = k ∧ op = .call { callee := .value (.func f), args, argTypes } ∧ cArgs P argTypes.toList args.toList = some ys := by
  cases op <;> simp only [cOp] at h
  case call cl =>
    obtain ⟨f, h0, h1, h2⟩ := cCall_call h
    obtain ⟨callee, args, argTypes⟩ := cl
    simp only at h1 h2
    subst h1
    exact ⟨f, args, argTypes, h0, rfl, h2⟩
  all_goals (repeat' (split at h)) <;> (first | (cases h; done) | (simp only [Option.map_eq_some_iff] at h; obtain ⟨_, _, h⟩ := h; cases h))

theorem cOp_pick {op : Op} {U : TypeId} {x y z : Opd} (h : cOp P kf op U = some (.pick x y z)) : ∃ a b c, op = .pick a b c ∧ cOpd P 0 a = some x ∧ cOpd P U b = some y ∧ cOpd P U c = some z := by
  cases op <;> simp only [cOp] at h
  case pick a b c =>
    split at h
    · rename_i h1 h2 h3
      cases h
      exact ⟨a, b, c, rfl, h1, h2, h3⟩
    · cases h
  case call cl =>
    unfold cCall at h
    split at h
    · simp only [Option.map_eq_some_iff] at h
      obtain ⟨_, _, h⟩ := h
      cases h
    · unfold cBuiltin at h
      (repeat' (split at h)) <;> (first | (cases h; done) | (simp only [Option.map_eq_some_iff] at h; obtain ⟨_, _, h⟩ := h; cases h))
    · cases h
  all_goals (repeat' (split at h)) <;> (first | (cases h; done) | (simp only [Option.map_eq_some_iff] at h; obtain ⟨_, _, h⟩ := h; cases h))

theorem applyE_val {dst : Option Nat} {g : Option (Nat × Bool)} {G : Bool} {d : D} {s' : St} (h : applyE s dst g G (.val d) = some s') : s' = s.set dst (wrapD g G d) := by
  simp only [applyE, Option.some.injEq] at h; exact h.symm

/-- One operation, in whatever state meets the walk's. -/
theorem step_sound (hT : TbOK P kf T) (h : Sat T X Y w0 c s a w) {ops : Array Oper} {o : Oper} {io : IOper} (hc : cOper P kf ops o = some io) {φ : Prop} {s' : St} (hst : istep T s io = some (φ, s')) (hφ : φ)
    {K : Act → World → Prop} {Q : Exit → Act → World → Prop} (hK : ∀ c' a' w', Sat T X Y w0 c' s' a' w' → K a' w') :
    if Region.wanted o (yielded ops a.tmps) = true then o.wp P a w K Q else K (a.put o.dst undef) w := by
  obtain ⟨hdst, hguard, hop⟩ := cOper_spec hc
  unfold istep at hst
  cases hG : gd s io.guard with
  | none => rw [hG] at hst; cases hst
  | some G =>
    rw [hG] at hst
    simp only at hst
    have hw := h.guard hguard hG
    -- where it is not carried out
    have skip : G = false → ∀ d, s' = s.set io.dst (wrapD io.guard G d) → K (a.put o.dst undef) w := by
      intro hGf d hs
      subst hs
      rw [hdst] at hK
      cases hg : io.guard with
      | none => rw [hg] at hG; simp [gd] at hG; rw [hGf] at hG; cases hG
      | some jw =>
        rw [hg, hGf] at hK
        exact hK c _ _ (h.put o.dst wrap_undef)
    -- a datum
    have val : G = true → ∀ d, Yld P X c a w o d → s' = s.set io.dst (wrapD io.guard G d) → o.wp P a w K Q := by
      intro hGt d ⟨v, hr, hd⟩ hs
      subst hs
      unfold Oper.wp
      rw [hr, Oper.upon_value]
      rw [hdst] at hK
      exact hK c _ _ (h.put o.dst (wrap_read hd hGt))
    rw [hw]
    split at hst
    · -- pick
      rename_i x y z hio
      rw [hio] at hop
      split at hst
      · rename_i b hb
        split at hst
        · rename_i d hd
          cases hst
          cases hGv : G with
          | false => simp only [Bool.false_eq_true, if_false]; exact skip hGv _ rfl
          | true =>
            simp only [if_true]
            obtain ⟨p1, p2, p3⟩ := hφ hGv
            obtain ⟨x0, y0, z0, ho, hx, hy, hz⟩ := cOp_pick hop
            exact val hGv d (snd_pick h ho hx hy hz hb hd p1 p2 p3) rfl
        · cases hst
      · cases hst
    · -- call
      rename_i f ys hio
      rw [hio] at hop
      split at hst
      · rename_i sp hsp
        split at hst
        case isFalse => cases hst
        cases hst
        cases hGv : G with
        | false => simp only [Bool.false_eq_true, if_false]; exact skip hGv _ rfl
        | true =>
          simp only [if_true]
          obtain ⟨p1, p2, p3, p4⟩ := hφ hGv
          obtain ⟨f', args, argTypes, hk, ho, hx⟩ := cOp_call hop
          subst hk
          refine snd_call hT h ho hx p1 hsp p2 p3 p4 (K := K) (Q := Q) fun v w' hS hd => ?_
          rw [hdst] at hK
          exact hK c _ _ (hS.put o.dst (wrap_read hd hGv))
      · cases hst
    · rename_i hn1 hn2
      split at hst
      · cases hst
      · rename_i φ' e hact
        split at hst
        · cases hst
        · rename_i s'' happ
          cases hst
          have hok : G = true → ActOK P T X Y w0 c s a w o e := fun hGt => by
            obtain ⟨p1, p2⟩ := hφ hGt
            exact act_ok h hop hact p2 p1
          cases e with
          | val d =>
            have hs := applyE_val happ
            cases hGv : G with
            | false => simp only [Bool.false_eq_true, if_false]; exact skip hGv d hs
            | true => simp only [if_true]; exact val hGv d (hok hGv) hs
          | new ob ptr =>
            simp only [applyE] at happ
            split at happ
            · rename_i k hg hk
              split at happ
              · cases happ
              · rename_i hlk
                cases happ
                rw [hg] at hG
                simp [gd] at hG
                subst hG
                simp only [if_true]
                obtain ⟨v, w', c', hr, hS⟩ := hok rfl k (hdst ▸ hk) (by simpa using hlk)
                unfold Oper.wp
                rw [hr, Oper.upon_value]
                exact hK c' _ _ (by rw [hk]; exact hS)
            · cases happ
          | put k ob =>
            simp only [applyE] at happ
            split at happ
            · rename_i hg hk
              cases happ
              rw [hg] at hG
              simp [gd] at hG
              subst hG
              simp only [if_true]
              obtain ⟨w', hr, hS⟩ := hok rfl (hdst ▸ hk)
              unfold Oper.wp
              rw [hr, Oper.upon_skip]
              exact hK c _ _ hS
            · cases happ
          | mv ko ob =>
            simp only [applyE] at happ
            split at happ
            · rename_i j hg hk
              split at happ
              · cases happ
              · rename_i hlk
                rw [hg] at hG
                simp [gd] at hG
                subst hG
                simp only [if_true]
                cases ko with
                | none =>
                  cases happ
                  obtain ⟨v, w', c', hr, hS⟩ := hok rfl j (hdst ▸ hk) (by
                    cases hl : s.lk j with
                    | none => rfl
                    | some _ => simp [hl] at hlk)
                  unfold Oper.wp
                  rw [hr, Oper.upon_value]
                  exact hK c' _ _ (by rw [hk]; exact hS)
                | some k =>
                  cases happ
                  obtain ⟨v, w', c', hr, hS⟩ := hok rfl j (hdst ▸ hk) (by
                    cases hl : s.lk j with
                    | none => exact .inl rfl
                    | some _ =>
                      right
                      simp [hl] at hlk
                      exact hlk.symm)
                  unfold Oper.wp
                  rw [hr, Oper.upon_value]
                  exact hK c' _ _ (by rw [hk]; exact hS)
            · cases happ
end
end Go.Vcg
