/-
  The functions of strings.Builder do on the world what they do on data. For every program; no conditions but those that each theorem names.
-/
import Derived.Test.YthiggepiihoooaaDoorVcgD
import Derived.Shelf.Strings.Builder1
import Derived.Lib.AppendStr
import Derived.Lib.UnsafeStr
set_option linter.unusedVariables false
set_option linter.unusedSimpArgs false
namespace Go.Vcg
open Go.Proofs Go.Shelf Go.RowKit Go.Lib

section
variable {P : Program} {w : World}
theorem OwnsR.empty {e : TypeId} {g : Option Nat} {v : Value} {n : Nat} {xs : List Value} (h : OwnsR w e 1 g v n xs) (hn : n = 0) (hv : v = .slice none 0 0) : g = none ∧ xs = [] := by
  refine ⟨?_, List.eq_nil_of_length_eq_zero (by rw [h.1, hn])⟩
  rcases h.2 with ⟨_, _, hg⟩ | ⟨b, cap, cur, h1, _⟩
  · exact hg
  · rw [hv] at h1; cases h1
theorem grown_new {e : TypeId} {n m : Nat} {xs news : List Value} (hx : xs.length = n) (hm : news.length = m) (hb : n + m ≤ 140737488355328) (old : Nat) :
    OwnsR (w.drew.alloc (.cells (xs.toArray ++ news.toArray ++ Builtin.zeroCells (Value.int .u8 0).cells (grownCap w (n + m) old e - (n + m))) e)) e 1 (some w.heap.size)
      (.slice (some ⟨w.heap.size, 0, none⟩) (n + m) (grownCap w (n + m) old e)) (n + m) (xs ++ news) := by
  have hge := grownCap_ge w (n + m) old e
  have hlen : (xs ++ news).length = (n + m) * 1 := by rw [List.length_append, hx, hm, Nat.mul_one]
  have hz1 : (Value.int IntKind.u8 0).cells.size = 1 := rfl
  refine ⟨hlen, .inr ⟨w.heap.size, _, _, rfl, rfl, heap_alloc_new w.drew _, hge, grownCap_le_maxLen w (n + m) old e (by unfold maxLen; omega), ?_, ?_⟩⟩
  · simp only [Array.size_append, List.size_toArray, size_zeroCells, hz1, hx, hm]
    omega
  · simp only [Array.toList_append, List.append_assoc]
    rw [← List.append_assoc, ← hlen]
    exact List.take_left
theorem grown_by (o : Obj) (row : Option Nat) : w.grownBy (w.drew.alloc o) row := ⟨rfl, rfl, rfl, by simp, fun k hk _ => RowKit.Below.heap_alloc w.drew o k hk⟩
/-- A string's bytes behind a row of one's own. -/
theorem app_str {t u ty e : TypeId} {i : TypeInfo} (ht : P.underlying t = some (.slice e)) (hu : P.underlying u = some .string) (hi : P.info? e = some i) (hz : i.zero = some (.int .u8 0)) (hs : i.size = 1) (hby : i.bytes = 1)
    {v : Value} {n : Nat} {xs : List Value} {g : Option Nat} (hown : OwnsR w e 1 g v n xs) (hv0 : n = 0 → v = .slice none 0 0) (s : ByteArray) (h63 : n + s.size ≤ 140737488355328) :
    ∃ v' w' g', (Builtin.append_ #[t, u] ty #[v, .string s]).run P w = .ok v' w' ∧ OwnsR w' e 1 g' v' (n + s.size) (xs ++ strCells s) ∧ w.grownBy w' g ∧ (g' = g ∨ g' = some w.heap.size) ∧ (n + s.size = 0 → v' = .slice none 0 0) := by
  have hxl : xs.length = n := by simpa using hown.1
  by_cases hn : n = 0
  · obtain ⟨rfl, rfl⟩ := hown.empty hn (hv0 hn)
    have hv := hv0 hn
    subst hv hn
    by_cases h0 : s.size = 0
    · have hc : strCells s = [] := List.eq_nil_of_length_eq_zero (by rw [strCells_length, h0])
      refine ⟨.slice none 0 0, w, none, ?_, ?_, ⟨rfl, rfl, rfl, Nat.le_refl _, fun _ _ _ => rfl⟩, .inl rfl, fun _ => rfl⟩
      · have hf := run_firstCells_string (P := P) w 1 s
        rw [h0] at hf
        simp [Builtin.append_, run_underlying ht, run_underlying hu, sizeOf, typeInfo, hi, hs, Builtin.lenOf, h0, hf]
      · rw [h0, hc]; exact OwnsR.nil w e 1 none
    · have hr := run_append_nil_string (P := P) w t u ty e i (.int .u8 0) ht hu hi hz s (by omega) (by omega) (by rw [hby]; omega)
      have hgr := grown_new (w := w) (e := e) (n := 0) (xs := []) (news := strCells s) rfl (strCells_length s) (by omega) 0
      have hcc : (s.data.map (fun b => Value.int .u8 b.toNat)) = (strCells s).toArray := by
        apply Array.ext'
        simp [strCells]
      rw [hcc] at hr
      simp only [Nat.zero_add, List.nil_append, Array.empty_append] at hgr ⊢
      exact ⟨_, _, some w.heap.size, hr, hgr, grown_by _ _, .inr rfl, fun h => absurd h h0⟩
  · rcases hown.2 with ⟨_, h0, _⟩ | ⟨b, cap, cur, rfl, rfl, hg, hnc, hcm, hcs, htake⟩
    · exact absurd h0 hn
    have hlen : (xs ++ strCells s).length = (n + s.size) * 1 := by rw [List.length_append, hxl, strCells_length, Nat.mul_one]
    by_cases hroom : n + s.size ≤ cap
    · have hcs' : cur.size = cap := by simpa using hcs
      have hr := run_append_room_string (P := P) w t u ty e i ht hu hi hs b n cap cur hg s hroom (by omega)
      refine ⟨_, _, some b, hr, ⟨hlen, .inr ⟨b, cap, _, rfl, rfl, setRow_heap w b cur _ e _ hg, hroom, hcm, ?_, ?_⟩⟩, ⟨rfl, rfl, rfl, by simp, fun k _ hk => setRow_other w b k _ (fun e => hk (by rw [e]))⟩, .inl rfl, fun h => absurd h (by omega)⟩
      · simp only [List.size_toArray, List.length_append, List.length_take, List.length_drop, Array.length_toList, strCells_length]
        omega
      · have ht' : cur.toList.take n = xs := by simpa using htake
        rw [ht', ← hlen]
        exact List.take_left
    · have holds : ∀ (j : Nat) u, xs[j]? = some u → w.cell? ((⟨b, 0, none⟩ : Addr).add j) = some u := World.ownsRow.cells (w := w) (base := 0) (e := e) (size := 1) (n := n) ⟨hown.1, .inr ⟨b, cap, cur, rfl, Nat.zero_le _, hg, hnc, hcm, hcs, htake⟩⟩ (g := b) rfl
      have hr := run_append_grow_string (P := P) w t u ty e i (.int .u8 0) ht hu hi hz ⟨b, 0, none⟩ n cap xs (by rw [hs]; simpa using hxl) holds s (by omega) (by omega) (by rw [hby]; exact growslice_fits (by omega) (by omega))
      have hgr := grown_new (w := w) (e := e) (xs := xs) (news := strCells s) hxl (strCells_length s) h63 cap
      exact ⟨_, _, some w.heap.size, hr, hgr, grown_by _ _, .inr rfl, fun h => absurd h (by omega)⟩
/-- One byte behind a row of one's own. -/
theorem app_byte {U ty e : TypeId} {i : TypeInfo} (hu : P.underlying U = some (.slice e)) (hi : P.info? e = some i) (hz : i.zero = some (.int .u8 0)) (hs : i.size = 1) (hby : i.bytes = 1)
    {v : Value} {n : Nat} {xs : List Value} {g : Option Nat} (hown : OwnsR w e 1 g v n xs) (hv0 : n = 0 → v = .slice none 0 0) {ad : Addr} {c' : Nat} {u : Value} (hc : w.cell? (ad.add 0) = some u) (h1 : u.oneCell' = true) (h63 : n + 1 ≤ 140737488355328) :
    ∃ v' w' g', (Builtin.append_ #[U, U] ty #[v, .slice (some ad) 1 c']).run P w = .ok v' w' ∧ OwnsR w' e 1 g' v' (n + 1) (xs ++ [u]) ∧ w.grownBy w' g ∧ (g' = g ∨ g' = some w.heap.size) := by
  have hxl : xs.length = n := by simpa using hown.1
  have hnews : ∀ (j : Nat) x, [u][j]? = some x → w.cell? (ad.add j) = some x := by
    intro j x hx
    cases j with
    | zero => simp at hx; subst hx; exact hc
    | succ j => simp at hx
  by_cases hn : n = 0
  · obtain ⟨rfl, rfl⟩ := hown.empty hn (hv0 hn)
    have hv := hv0 hn
    subst hv hn
    have hr := run_append_nil (P := P) w U ty e i (.int .u8 0) hu hi hz ad 1 c' [u] (by rw [hs]; rfl) hnews (by omega) (by omega) (by rw [hby]; omega)
    have hgr := grown_new (w := w) (e := e) (n := 0) (xs := []) (news := [u]) rfl rfl (by omega) 0
    simp only [Nat.zero_add, List.nil_append, Array.empty_append] at hgr ⊢
    exact ⟨_, _, some w.heap.size, hr, hgr, grown_by _ _, .inr rfl⟩
  · rcases hown.2 with ⟨_, h0, _⟩ | ⟨b, cap, cur, rfl, rfl, hg, hnc, hcm, hcs, htake⟩
    · exact absurd h0 hn
    have hlen : (xs ++ [u]).length = (n + 1) * 1 := by rw [List.length_append, hxl]; simp
    by_cases hroom : n + 1 ≤ cap
    · have hcs' : cur.size = cap := by simpa using hcs
      have hr := append_room (P := P) (ty := ty) hu hi hg (ad := ad) (m := 1) (c' := c') (news := [u]) (by rw [hs]; rfl) hnews (by simpa using h1) hroom (by rw [hs]; simp; omega)
      rw [hs] at hr
      refine ⟨_, _, some b, hr, ⟨hlen, .inr ⟨b, cap, _, rfl, rfl, setRow_heap w b cur _ e _ hg, hroom, hcm, ?_, ?_⟩⟩, ⟨rfl, rfl, rfl, by simp, fun k _ hk => setRow_other w b k _ (fun e => hk (by rw [e]))⟩, .inl rfl⟩
      · simp only [List.size_toArray, List.length_append, List.length_take, List.length_drop, Array.length_toList, List.length_cons, List.length_nil]
        omega
      · rw [htake, ← hlen]
        exact List.take_left
    · have holds : ∀ (j : Nat) u, xs[j]? = some u → w.cell? ((⟨b, 0, none⟩ : Addr).add j) = some u := World.ownsRow.cells (w := w) (base := 0) (e := e) (size := 1) (n := n) ⟨hown.1, .inr ⟨b, cap, cur, rfl, Nat.zero_le _, hg, hnc, hcm, hcs, htake⟩⟩ (g := b) rfl
      have hr := run_append_grow (P := P) w U ty e i (.int .u8 0) hu hi hz ⟨b, 0, none⟩ n cap xs (by rw [hs]; simpa using hxl) holds ad 1 c' [u] (by rw [hs]; rfl) hnews (by omega) (by omega) (growslice_fits (by omega) (by rw [hby]; omega))
      have hgr := grown_new (w := w) (e := e) (xs := xs) (news := [u]) hxl rfl h63 cap
      exact ⟨_, _, some w.heap.size, hr, hgr, grown_by _ _, .inr rfl⟩
end

section
variable {P : Program} {ρ : Ren}
/-- What turns at a builder: its own block and its bytes' alone. -/
structure BStep (w w' : World) (b : Nat) (g g' : Option Nat) (U e : TypeId) (v' : Value) (bs : List Value) : Prop where
  cells : w'.heap[b]? = some (.cells #[.pointer (some ⟨b, 0, none⟩), v'] U (0, 0))
  owns : OwnsR w' e 1 g' v' bs.length bs
  nil : bs = [] → v' = .slice none 0 0
  new : g' = g ∨ ∃ x, g' = some x ∧ w.heap.size ≤ x
  ne : ∀ x, g' = some x → x ≠ b
  os : w'.os = w.os
  tape : w'.tape = w.tape
  output : w'.output = w.output
  size : w.heap.size ≤ w'.heap.size
  block : ∀ k, k < w.heap.size → k ≠ b → g ≠ some k → w'.heap[k]? = w.heap[k]?

/-- copyCheck, to the block. -/
theorem bld_check (L : Lays.n240 P ρ) (X : Builder.X72 P ρ) {b : Nat} {p v : Value} {w : World} (hbk : w.heap[b]? = some (.cells #[p, v] (ρ.t 72) (0, 0))) (hp : p = .pointer none ∨ p = .pointer (some ⟨b, 0, none⟩)) :
    Calls P (ρ.f 240) #[.pointer (some ⟨b, 0, none⟩)] w fun e w' => e = .returned (.tuple #[]) ∧ w'.heap[b]? = some (.cells #[.pointer (some ⟨b, 0, none⟩), v] (ρ.t 72) (0, 0)) ∧ (∀ k, k ≠ b → w'.heap[k]? = w.heap[k]?) ∧ w'.heap.size = w.heap.size ∧ w'.os = w.os ∧ w'.tape = w.tape ∧ w'.output = w.output := by
  rcases hp with rfl | rfl
  · refine (Any.Builder_copyCheck_fresh L X b w (by rw [Lib.cell_of_heap hbk]; rfl) (by simp [World.shape?, hbk]) (Lib.frozen_of_heap hbk 0)).mono ?_
    rintro e w' ⟨rfl, rfl⟩
    have hs := setCell_eq_setRow w b 0 _ _ _ (.pointer (some ⟨b, 0, none⟩)) hbk
    rw [hs]
    refine ⟨rfl, ?_, fun k hk => setRow_other w b k _ hk, by simp, rfl, rfl, rfl⟩
    have := setRow_heap w b _ (#[.pointer none, v].setIfInBounds 0 (.pointer (some ⟨b, 0, none⟩))) _ _ hbk
    rw [this]
    rfl
  · refine (Any.Builder_copyCheck_used L X b w (by rw [Lib.cell_of_heap hbk]; rfl)).mono ?_
    rintro e w' ⟨rfl, rfl⟩
    exact ⟨rfl, hbk, fun _ _ => rfl, rfl, rfl, rfl, rfl⟩

theorem bstep_of {w w1 w2 : World} {b : Nat} {g g' : Option Nat} {U e : TypeId} {v v' : Value} {bs : List Value} (h1 : w1.heap[b]? = some (.cells #[.pointer (some ⟨b, 0, none⟩), v] U (0, 0))) (h2 : ∀ k, k ≠ b → w1.heap[k]? = w.heap[k]?) (h3 : w1.heap.size = w.heap.size)
    (h4 : w1.os = w.os ∧ w1.tape = w.tape ∧ w1.output = w.output) (hne : ∀ x, g = some x → x ≠ b) {w1' : World} (ha : w1'.heap.size ≥ w1.heap.size) (hk : ∀ k, k < w1.heap.size → w1'.heap[k]? = w1.heap[k]?) (ho : w1'.os = w1.os ∧ w1'.tape = w1.tape ∧ w1'.output = w1.output)
    (h5 : OwnsR w2 e 1 g' v' bs.length bs) (h6 : w1'.grownBy w2 g) (h7 : g' = g ∨ g' = some w1'.heap.size) (h8 : bs = [] → v' = .slice none 0 0) :
    w2.heap[b]? = some (.cells #[.pointer (some ⟨b, 0, none⟩), v] U (0, 0)) ∧ BStep w (w2.setCell ⟨b, 1, none⟩ v') b g g' U e v' bs := by
  have hlt : b < w1.heap.size := (Array.getElem?_eq_some_iff.1 h1).1
  have hb2 : w2.heap[b]? = some (.cells #[.pointer (some ⟨b, 0, none⟩), v] U (0, 0)) := by
    rw [h6.block b (by omega) (fun e => hne b e.symm rfl), hk b hlt]; exact h1
  refine ⟨hb2, ?_⟩
  have hs := setCell_eq_setRow w2 b 1 _ _ _ v' hb2
  rw [hs]
  have hgne : ∀ x, g' = some x → x ≠ b := by
    intro x hx
    rcases h7 with rfl | rfl
    · exact hne x hx
    · have := Option.some.inj hx; omega
  refine ⟨?_, ?_, h8, ?_, hgne, ?_, ?_, ?_, ?_, ?_⟩
  · rw [setRow_heap w2 b _ (#[.pointer (some ⟨b, 0, none⟩), v].setIfInBounds 1 v') _ _ hb2]; rfl
  · refine ⟨h5.1, ?_⟩
    rcases h5.2 with h | ⟨x, cap, cur, q1, q2, q3, q4⟩
    · exact .inl h
    · exact .inr ⟨x, cap, cur, q1, q2, by rw [setRow_other w2 b x _ (hgne x q2)]; exact q3, q4⟩
  · rcases h7 with h | h
    · exact .inl h
    · exact .inr ⟨_, h, by omega⟩
  · exact h6.os.trans (ho.1.trans h4.1)
  · exact h6.tape.trans (ho.2.1.trans h4.2.1)
  · exact h6.output.trans (ho.2.2.trans h4.2.2)
  · have := h6.size; simp; omega
  · intro k hk1 hk2 hk3
    rw [setRow_other w2 b k _ hk2, h6.block k (by omega) (fun e => hk3 e.symm), hk k (by omega), h2 k hk2]

theorem wpList_append_run {ops : Array Oper} {rest : List Oper} {o : Oper} {a : Act} {Q : Exit → Act → World → Prop} (hgd : o.guard = none) (sl x : Operand) (t u : TypeId)
    (ho : o.op = .call { callee := .builtin .append, args := #[sl, x], argTypes := #[t, u] }) {v v2 v' : Value} {w w2 : World} (hs : a.eval sl = v) (hx : a.eval x = v2) (hr : (Builtin.append_ #[t, u] o.type #[v, v2]).run P w = .ok v' w2)
    (h : wpList P ops Q rest (a.put o.dst v') w2) : wpList P ops Q (o :: rest) a w := by
  refine wpList_plain hgd fun K hK => ?_
  unfold Oper.wp execOp
  simp only [ho, resolve, invoke, builtin, Sem.run_bind, Sem.run_pure, Result.andThen_ok, List.map_toArray, List.map_cons, List.map_nil, hs, hx, hr]
  exact hK _ _ h
set_option maxHeartbeats 2000000 in
set_option maxRecDepth 100000 in
theorem bld_write (L : Lays.n166 P ρ) (X : Builder.Extra P ρ) {b : Nat} {p v : Value} {g : Option Nat} {xs : List Value} {w : World} (s : ByteArray) (hbk : w.heap[b]? = some (.cells #[p, v] (ρ.t 72) (0, 0))) (hp : p = .pointer none ∨ p = .pointer (some ⟨b, 0, none⟩))
    (hown : OwnsR w (ρ.t 5) 1 g v xs.length xs) (hnil : xs = [] → v = .slice none 0 0) (hne : ∀ x, g = some x → x ≠ b) (hlen : xs.length + s.size ≤ 140737488355328) :
    Calls P (ρ.f 166) #[.pointer (some ⟨b, 0, none⟩), .string s] w fun e w' => ∃ v' g', e = .returned (.tuple #[.int .i64 s.size, .nilIface]) ∧ BStep w w' b g g' (ρ.t 72) (ρ.t 5) v' (xs ++ strCells s) := by
  obtain ⟨i0, hi, hz0, hz1, hz2⟩ := info_parts X.infoByte
  have mixed := L.mixed
  have t72 := L.t72; have a72 := L.a72; have z72 := L.z72; have v72 := L.v72; have u72 := run_underlying L.t72
  have t70 := L.t70; have a70 := L.a70; have z70 := L.z70; have v70 := L.v70; have u70 := run_underlying L.t70
  have t37 := L.t37; have a37 := L.a37; have z37 := L.z37; have v37 := L.v37; have u37 := run_underlying L.t37
  have t3 := L.t3; have a3 := L.a3; have z3 := L.z3; have v3 := L.v3; have u3 := run_underlying L.t3
  have t9 := L.t9; have a9 := L.a9; have z9 := L.z9; have v9 := L.v9; have u9 := run_underlying L.t9
  have t4 := L.t4; have a4 := L.a4; have z4 := L.z4; have v4 := L.v4; have u4 := run_underlying L.t4
  have t164 := L.t164; have a164 := L.a164; have z164 := L.z164; have v164 := L.v164; have u164 := run_underlying L.t164
  have t5 := X.t5; have a5 := X.a5; have z5 := X.z5; have v5 := X.v5; have u5 := run_underlying X.t5
  have e240 : ∀ args w, (callFunc (ρ.f 240) args).run P w = .ok (.enter (ρ.f 240) args) w := Go.Proofs.enters_of L.f240 (by kernel_rfl) rfl
  go_enter L.f166, Body.n166_ntmps ρ
  go_wp2_with (go_at_fn (ρ.f 240); refine (bld_check { L with } X.toX72 hbk hp).mono ?_)
  rintro e w1 ⟨rfl, h1, h2, h3, h4⟩
  have hown1 : OwnsR w1 (ρ.t 5) 1 g v xs.length xs := by
    refine ⟨hown.1, ?_⟩
    rcases hown.2 with h | ⟨x, cap, cur, q1, q2, q3, q4⟩
    · exact .inl h
    · exact .inr ⟨x, cap, cur, q1, q2, by rw [h2 x (hne x q2)]; exact q3, q4⟩
  have c0 : w1.cell? ⟨b, 0, none⟩ = some (.pointer (some ⟨b, 0, none⟩)) := by rw [Lib.cell_of_heap h1]; rfl
  have c1 : w1.cell? ⟨b, 1, none⟩ = some v := by rw [Lib.cell_of_heap h1]; rfl
  obtain ⟨v', w2, g', hr, h5, h6, h7, h8⟩ := app_str (P := P) (w := w1) (t := ρ.t 37) (u := ρ.t 9) (ty := ρ.t 37) L.t37 L.t9 hi hz0 hz1 hz2 hown1 (fun h => hnil (List.eq_nil_of_length_eq_zero h)) s hlen
  obtain ⟨hb2, hst⟩ := bstep_of (w := w) (w2 := w2) (bs := xs ++ strCells s) h1 h2 h3 h4 hne (w1' := w1) (Nat.le_refl _) (fun _ _ => rfl) ⟨rfl, rfl, rfl⟩ (by rw [List.length_append, strCells_length]; exact h5) h6 h7 (fun h => h8 (by
    have := congrArg List.length h
    rw [List.length_append, strCells_length] at this
    simpa using this))
  have d0 : w2.cell? ⟨b, 0, none⟩ = some (.pointer (some ⟨b, 0, none⟩)) := by rw [Lib.cell_of_heap hb2]; rfl
  have d1 : w2.cell? ⟨b, 1, none⟩ = some v := by rw [Lib.cell_of_heap hb2]; rfl
  have f1 : w2.frozen? ⟨b, 1, none⟩ = false := Lib.frozen_of_heap hb2 1
  obtain ⟨ao, n', cap, rfl⟩ : ∃ ao n' cap, v' = .slice ao n' cap := by
    rcases h5.2 with ⟨⟨o, hv⟩, _⟩ | ⟨x, cap, cur, hv, _⟩
    · exact ⟨_, _, _, hv⟩
    · exact ⟨_, _, _, hv⟩
  go_wp2_with (at_builtin; refine wpList_append_run rfl (.tmp 12) (.tmp 13) (ρ.t 37) (ρ.t 9) rfl rfl rfl hr ?_)
  go_ret2
  exact ⟨_, g', rfl, hst⟩

set_option maxHeartbeats 2000000 in
set_option maxRecDepth 100000 in
theorem bld_byte (L : Lays.n167 P ρ) (X : Builder.Extra P ρ) {b : Nat} {p v : Value} {g : Option Nat} {xs : List Value} {w : World} (c : Int) (hbk : w.heap[b]? = some (.cells #[p, v] (ρ.t 72) (0, 0))) (hp : p = .pointer none ∨ p = .pointer (some ⟨b, 0, none⟩))
    (hown : OwnsR w (ρ.t 5) 1 g v xs.length xs) (hnil : xs = [] → v = .slice none 0 0) (hne : ∀ x, g = some x → x ≠ b) (hlen : xs.length + 1 ≤ 140737488355328) :
    Calls P (ρ.f 167) #[.pointer (some ⟨b, 0, none⟩), .int .u8 c] w fun e w' => ∃ v' g', e = .returned .nilIface ∧ BStep w w' b g g' (ρ.t 72) (ρ.t 5) v' (xs ++ [.int .u8 c]) := by
  obtain ⟨i0, hi, hz0, hz1, hz2⟩ := info_parts X.infoByte
  have mixed := L.mixed
  have t72 := L.t72; have a72 := L.a72; have z72 := L.z72; have v72 := L.v72; have u72 := run_underlying L.t72
  have t70 := L.t70; have a70 := L.a70; have z70 := L.z70; have v70 := L.v70; have u70 := run_underlying L.t70
  have t5 := L.t5; have a5 := L.a5; have z5 := L.z5; have v5 := L.v5; have u5 := run_underlying L.t5
  have t37 := L.t37; have a37 := L.a37; have z37 := L.z37; have v37 := L.v37; have u37 := run_underlying L.t37
  have t9 := L.t9; have a9 := L.a9; have z9 := L.z9; have v9 := L.v9; have u9 := run_underlying L.t9
  have t4 := L.t4; have a4 := L.a4; have z4 := L.z4; have v4 := L.v4; have u4 := run_underlying L.t4
  have t164 := L.t164; have a164 := L.a164; have z164 := L.z164; have v164 := L.v164; have u164 := run_underlying L.t164
  have e240 : ∀ args w, (callFunc (ρ.f 240) args).run P w = .ok (.enter (ρ.f 240) args) w := Go.Proofs.enters_of L.f240 (by kernel_rfl) rfl
  go_enter L.f167, Body.n167_ntmps ρ
  go_wp2_with (go_at_fn (ρ.f 240); refine (bld_check { L with } X.toX72 hbk hp).mono ?_)
  rintro e w1 ⟨rfl, h1, h2, h3, h4⟩
  have hown1 : OwnsR (w1.alloc (.cells #[.int .u8 c] (ρ.t 5))) (ρ.t 5) 1 g v xs.length xs := by
    refine ⟨hown.1, ?_⟩
    rcases hown.2 with h | ⟨x, cap, cur, q1, q2, q3, q4⟩
    · exact .inl h
    · have q3' : w1.heap[x]? = some (.cells cur (ρ.t 5) (0, 0)) := by rw [h2 x (hne x q2)]; exact q3
      exact .inr ⟨x, cap, cur, q1, q2, by rw [Lib.alloc_old w1 _ x (Array.getElem?_eq_some_iff.1 q3').1]; exact q3', q4⟩
  have c0 : w1.cell? ⟨b, 0, none⟩ = some (.pointer (some ⟨b, 0, none⟩)) := by rw [Lib.cell_of_heap h1]; rfl
  have c1 : w1.cell? ⟨b, 1, none⟩ = some v := by rw [Lib.cell_of_heap h1]; rfl
  have hcell : (w1.alloc (.cells #[.int .u8 c] (ρ.t 5))).cell? ((⟨w1.heap.size, 0, none⟩ : Addr).add 0) = some (.int .u8 c) := by
    have : (w1.alloc (.cells #[.int .u8 c] (ρ.t 5))).heap[w1.heap.size]? = some (.cells #[.int .u8 c] (ρ.t 5) (0, 0)) := heap_alloc_new w1 _
    show (w1.alloc (.cells #[.int .u8 c] (ρ.t 5))).cell? ⟨w1.heap.size, 0, none⟩ = _
    rw [Lib.cell_of_heap this]; rfl
  obtain ⟨v', w2, g', hr, h5, h6, h7⟩ := app_byte (P := P) (U := ρ.t 37) (ty := ρ.t 37) L.t37 hi hz0 hz1 hz2 hown1 (fun h => hnil (List.eq_nil_of_length_eq_zero h)) (c' := 1) hcell rfl hlen
  obtain ⟨hb2, hst⟩ := bstep_of (w := w) (w2 := w2) (bs := xs ++ [.int .u8 c]) h1 h2 h3 h4 hne (w1' := w1.alloc (.cells #[.int .u8 c] (ρ.t 5))) (by simp) (fun k hk => Lib.alloc_old w1 _ k hk) ⟨rfl, rfl, rfl⟩ (by rw [List.length_append]; exact h5) h6 h7 (fun h => by simp at h)
  have d0 : w2.cell? ⟨b, 0, none⟩ = some (.pointer (some ⟨b, 0, none⟩)) := by rw [Lib.cell_of_heap hb2]; rfl
  have d1 : w2.cell? ⟨b, 1, none⟩ = some v := by rw [Lib.cell_of_heap hb2]; rfl
  have f1 : w2.frozen? ⟨b, 1, none⟩ = false := Lib.frozen_of_heap hb2 1
  obtain ⟨ao, n', cap, rfl⟩ : ∃ ao n' cap, v' = .slice ao n' cap := by
    rcases h5.2 with ⟨⟨o, hv⟩, _⟩ | ⟨x, cap, cur, hv, _⟩
    · exact ⟨_, _, _, hv⟩
    · exact ⟨_, _, _, hv⟩
  rw [h3] at hr
  go_wp2_with (at_builtin; go_loud (refine wpList_append_run rfl (.tmp 11) (.tmp 13) (ρ.t 37) (ρ.t 37) rfl rfl rfl hr ?_))
  go_ret
  exact ⟨_, g', rfl, hst⟩

/-- Bytes as cells, read back as a string. -/
theorem strCells_u8 (bs : List UInt8) : strCells ⟨bs.toArray⟩ = u8C bs := by simp [strCells, u8C]
set_option maxHeartbeats 2000000 in
set_option maxRecDepth 100000 in
theorem bld_string (L : Lays.n169 P ρ) (X : Builder.Extra P ρ) {b : Nat} {p v : Value} {g : Option Nat} {l : List UInt8} {w : World} (hbk : w.heap[b]? = some (.cells #[p, v] (ρ.t 72) (0, 0)))
    (hown : OwnsR w (ρ.t 5) 1 g v l.length (Lib.byteCells l)) (hnil : l = [] → v = .slice none 0 0) :
    Calls P (ρ.f 169) #[.pointer (some ⟨b, 0, none⟩)] w fun e w' => e = .returned (.string ⟨l.toArray⟩) ∧ w'.os = w.os ∧ w'.tape = w.tape ∧ w'.output = w.output ∧ w.heap.size ≤ w'.heap.size ∧ ∀ k, k < w.heap.size → g ≠ some k → w'.heap[k]? = w.heap[k]? := by
  by_cases h0 : l = []
  · have hv := hnil h0
    subst hv h0
    refine (Any.Builder_String_nil L X w.heap.size b p w hbk).mono ?_
    rintro e w' ⟨rfl, hb⟩
    exact ⟨rfl, hb.os, hb.tape, hb.output, hb.size, fun k hk _ => hb.block k hk⟩
  have hl0 : l.length ≠ 0 := by simpa using h0
  obtain ⟨x, cap, cur, rfl, rfl, hg, hnc, hcm, hcs, htake⟩ : ∃ x cap cur, v = .slice (some ⟨x, 0, none⟩) l.length cap ∧ g = some x ∧ w.heap[x]? = some (.cells cur (ρ.t 5) (0, 0)) ∧ l.length ≤ cap ∧ cap ≤ maxLen ∧ cur.size = cap * 1 ∧ cur.toList.take (l.length * 1) = Lib.byteCells l := by
    rcases hown.2 with ⟨_, hz, _⟩ | ⟨x, cap, cur, q1, q2, q3⟩
    · exact absurd hz hl0
    · exact ⟨x, cap, cur, q1, q2, q3⟩
  have c1 : w.drew.cell? ⟨b, 1, none⟩ = some (.slice (some ⟨x, 0, none⟩) l.length cap) := by
    have : w.drew.heap[b]? = some (.cells #[p, .slice (some ⟨x, 0, none⟩) l.length cap] (ρ.t 72) (0, 0)) := hbk
    rw [Lib.cell_of_heap this]; rfl
  have hSD : (Builtin.unsafeSliceData_ #[(ρ.t 37)] (ρ.t 127) #[.slice (some ⟨x, 0, none⟩) l.length cap]).run P w.drew = .ok (.pointer (some ⟨x, 0, none⟩)) w.drew :=
    Lib.run_unsafeSliceData_row _ _ _ _ _ _ (by omega)
  have hUS : (Builtin.unsafeString_ #[(ρ.t 127), (ρ.t 3)] (ρ.t 9) #[.pointer (some ⟨x, 0, none⟩), .int .i64 l.length]).run P w.drew = .ok (.string ⟨l.toArray⟩) (w.drew.freeze ⟨x, 0, none⟩ l.length) := by
    refine Lib.run_unsafeString_row w.drew (ρ.t 127) (ρ.t 3) (ρ.t 9) (ρ.t 5) L.t127 X.cellsByte x cur.size (by have hg' : w.drew.heap[x]? = some (.cells cur (ρ.t 5) (0, 0)) := hg; simp [World.shape?, hg']) l h0 (by omega) (by unfold maxLen at hcm; omega) ?_
    intro j y hy
    have hw : w.drew.heap[x]? = some (.cells cur (ρ.t 5) (0, 0)) := hg
    have hj : (Lib.byteCells l)[j]? = some (.int .u8 y.toNat) := by simp [Lib.byteCells, hy]
    rw [← htake, List.getElem?_take] at hj
    split at hj
    · have hadd : (⟨x, 0, none⟩ : Addr).add j = ⟨x, j, none⟩ := by unfold Addr.add; split <;> simp_all
      rw [hadd, cell_of_row w.drew x j cur (ρ.t 5) (0, 0) hw]
      simpa using hj
    · cases hj
  have hfin : ∀ k, k < w.heap.size → some x ≠ some k → (w.drew.freeze ⟨x, 0, none⟩ l.length).heap[k]? = w.heap[k]? := by
    intro k hk hne
    have hne' : x ≠ k := fun e => hne (by rw [e])
    unfold World.freeze
    rw [if_neg hl0]
    show (w.drew.heap.modify x _)[k]? = w.heap[k]?
    rw [Array.getElem?_modify, if_neg hne']
    rfl
  have hf4 : (w.drew.freeze ⟨x, 0, none⟩ l.length).os = w.os ∧ (w.drew.freeze ⟨x, 0, none⟩ l.length).tape = w.tape ∧ (w.drew.freeze ⟨x, 0, none⟩ l.length).output = w.output ∧ w.heap.size ≤ (w.drew.freeze ⟨x, 0, none⟩ l.length).heap.size := by
    have := Lib.below_freeze (Below.drew (Below.refl 0 w)) (p := ⟨x, 0, none⟩) (Nat.zero_le _) l.length
    exact ⟨this.os, this.tape, this.output, this.size⟩
  have mixed := L.mixed
  have t72 := L.t72; have a72 := L.a72; have z72 := L.z72; have v72 := L.v72; have u72 := run_underlying L.t72
  have t70 := L.t70; have a70 := L.a70; have z70 := L.z70; have v70 := L.v70; have u70 := run_underlying L.t70
  have t37 := L.t37; have a37 := L.a37; have z37 := L.z37; have v37 := L.v37; have u37 := run_underlying L.t37
  have t127 := L.t127; have a127 := L.a127; have z127 := L.z127; have v127 := L.v127; have u127 := run_underlying L.t127
  have t3 := L.t3; have a3 := L.a3; have z3 := L.z3; have v3 := L.v3; have u3 := run_underlying L.t3
  have t9 := L.t9; have a9 := L.a9; have z9 := L.z9; have v9 := L.v9; have u9 := run_underlying L.t9
  have t5 := X.t5; have a5 := X.a5; have z5 := X.z5; have v5 := X.v5; have u5 := run_underlying X.t5
  go_enter L.f169, Body.n169_ntmps ρ
  go_wp2
  go_region_o
  all_goals (go_wp2; go_ret; exact ⟨rfl, hf4.1, hf4.2.1, hf4.2.2.1, hf4.2.2.2, hfin⟩)

/-! ### The same, as functions that are handed a builder -/
def bldO (U e : TypeId) (bs : List UInt8) : List (Nat × Ob) := [(1000000000, .bld U e bs)]
def hs_ws (U e : TypeId) : HSp := {
  pre := fun ds ob => ∃ (bs s : List UInt8), ds = [.own 1000000000 0, .str s] ∧ ob = bldO U e bs ∧ bs.length + s.length ≤ 140737488355328
  F := fun ds ob => match ds, ob with
    | [_, .str s], [(_, .bld U e bs)] => (.any, bldO U e (bs ++ s))
    | _, _ => (.any, []) }
def sp_WriteString (U e : TypeId) : Sp := { pre := fun _ => True, F := fun _ => .any, hx := some (hs_ws U e) }
def hs_wb (U e : TypeId) : HSp := {
  pre := fun ds ob => ∃ (bs : List UInt8) (c : Int), ds = [.own 1000000000 0, .int .u8 c] ∧ ob = bldO U e bs ∧ 0 ≤ c ∧ c ≤ 255 ∧ bs.length + 1 ≤ 140737488355328
  F := fun ds ob => match ds, ob with
    | [_, .int _ c], [(_, .bld U e bs)] => (.any, bldO U e (bs ++ [UInt8.ofNat c.toNat]))
    | _, _ => (.any, []) }
def sp_WriteByte (U e : TypeId) : Sp := { pre := fun _ => True, F := fun _ => .any, hx := some (hs_wb U e) }
def hs_bs (U e : TypeId) : HSp := {
  pre := fun ds ob => ∃ (bs : List UInt8), ds = [.own 1000000000 0] ∧ ob = bldO U e bs
  F := fun _ ob => match ob with
    | [(_, .bld _ _ bs)] => (.str bs, [])
    | _ => (.any, []) }
def sp_BString (U e : TypeId) : Sp := { pre := fun _ => True, F := fun _ => .any, hx := some (hs_bs U e) }

theorem Sat.bstep {T : Tb} {X : Nat → Prop} {w w' : World} {c : Cx} {args : Array Value} {ds : List D} {U e : TypeId} {bs bs' : List UInt8} (h : Sat T X ⟨c.mine, c⟩ w c ⟨ds, bldO U e bs⟩ { tmps := args, defers := [] } w)
    {b : Nat} {g g' : Option Nat} {v' : Value} (hid : c.ids 1000000000 = some b) (how : ∀ x, g = some x → x ≠ b ∧ c.ow x = some 1000000000) (hst : BStep w w' b g g' U e v' (u8C bs')) (r : Value) :
    Sat T X ⟨c.mine, c⟩ w { c with ow := fun x => if g' = some x then some 1000000000 else c.ow x } ⟨[.any], bldO U e bs'⟩ { tmps := #[r], defers := [] } w' := by
  have hlive : ∀ k, c.live k = true → k = 1000000000 := by
    intro k hk
    rw [h.live] at hk
    by_cases e : k = 1000000000
    · exact e
    · have : (k == 1000000000) = false := by simpa using e
      simp [St.lk, bldO, List.lookup, this] at hk
  have hl1 : c.live 1000000000 = true := by rw [h.live]; simp [St.lk, bldO, List.lookup]
  have hbl : ∀ x, g' = some x → x < w'.heap.size := fun x hx => hst.owns.lt hx
  have hgx : ∀ x, g' = some x → (g = some x) ∨ w.heap.size ≤ x := by
    intro x hx
    rcases hst.new with e | ⟨y, e, hy⟩
    · exact .inl (by rw [← e]; exact hx)
    · rw [e] at hx; obtain rfl := Option.some.inj hx; exact .inr hy
  have hE : Ext c.mine w w' := ⟨hst.os, hst.tape, hst.output, hst.size, fun k hk hm => hst.block k hk (fun e => hm (.inl ⟨_, hl1, by rw [hid, e]⟩)) (fun e => hm (.inr ⟨_, (how k e).2⟩))⟩
  have hX : ∀ x, x < w.heap.size → PX X { c with ow := fun x => if g' = some x then some 1000000000 else c.ow x } x → PX X c x := by
    intro x hx hp
    rcases hp with hp | hp | ⟨k, hk⟩
    · exact .inl hp
    · exact .inr (.inl hp)
    · simp only at hk
      split at hk
      · rename_i hg
        rcases hgx x hg with h1 | h1
        · exact .inr (.inr ⟨_, (how x h1).2⟩)
        · omega
      · exact .inr (.inr ⟨k, hk⟩)
  have hY : ∀ x, x < w.heap.size → c.mine x → PX X c x := fun x _ hm => .inr hm
  refine ⟨?_, ?_, ?_, h.inj, h.fresh, hE, ?_, h.Xb, h.rv1, rfl, h.base, ?_, ?_⟩
  · intro k
    show c.live k = _
    rw [h.live]
    by_cases e : k = 1000000000
    · subst e; simp [St.lk, bldO, List.lookup]
    · have : (k == 1000000000) = false := by simpa using e
      simp [St.lk, bldO, List.lookup, this]
  · simp only [RdL]; exact ⟨r, [], rfl, by simp only [Rd], rfl⟩
  · intro k o hk
    have hk1 : k = 1000000000 := by
      by_cases e : k = 1000000000
      · exact e
      · have : (k == 1000000000) = false := by simpa using e
        simp [St.lk, bldO, List.lookup, this] at hk
    subst hk1
    have ho : o = .bld U e bs' := by simp [St.lk, bldO, List.lookup] at hk; exact hk.symm
    subst ho
    refine ⟨b, _, v', g', hid, hst.cells, .inr rfl, ?_, fun hb => hst.nil (by rw [hb]; rfl), fun x hx => ⟨hst.ne x hx, by simp [hx]⟩⟩
    have := hst.owns
    rw [show (u8C bs').length = bs'.length by simp [u8C]] at this
    exact this
  · intro i
    exact Rd.mono hE hY hX _ (c := none) (c' := none) trivial (h.gl i)
  · intro x k hk
    simp only at hk
    split at hk
    · rename_i hg
      rcases hgx x hg with h1 | h1
      · obtain ⟨q1, q2, q3⟩ := h.owf x _ (how x h1).2
        exact ⟨q1, q2, hbl x hg⟩
      · exact ⟨.inl h1, h.Xb x h1, hbl x hg⟩
    · obtain ⟨q1, q2, q3⟩ := h.owf x _ hk
      exact ⟨q1, q2, Nat.lt_of_lt_of_le q3 hst.size⟩
  · intro x k j hk hj hjx
    have hj1 := hlive j hj
    subst hj1
    rw [hid] at hjx
    obtain rfl := Option.some.inj hjx
    simp only at hk
    split at hk
    · rename_i hg; exact hst.ne _ hg rfl
    · exact h.owi _ _ _ hk hl1 hid

/-- What a builder that is handed in is. -/
theorem Sat.bld_in {T : Tb} {X : Nat → Prop} {w : World} {c : Cx} {a : Act} {ds : List D} {U e : TypeId} {bs : List UInt8} (h : Sat T X ⟨c.mine, c⟩ w c ⟨ds, bldO U e bs⟩ a w) : BldOK w c 1000000000 U e bs := by
  have := h.ob 1000000000 (.bld U e bs) (by simp [St.lk, bldO, List.lookup])
  exact this
theorem ptr_in {X : Nat → Prop} {w : World} {c : Cx} {b : Nat} {v : Value} (h : Rd X w (some c) (.own 1000000000 0) v) (hid : c.ids 1000000000 = some b) : v = .pointer (some ⟨b, 0, none⟩) := by
  simp only [Rd] at h
  obtain ⟨_, b', h1, h2⟩ := h
  rw [hid] at h1
  obtain rfl := Option.some.inj h1
  exact h2
theorem arr_ofL {args : Array Value} {l : List Value} (h : args.toList = l) : args = l.toArray := by rw [← h]
theorem u8C_app (a b : List UInt8) : u8C (a ++ b) = u8C a ++ u8C b := by simp [u8C]
theorem fokx_ws (L : Lays.n166 P ρ) (X : Builder.Extra P ρ) {T : Tb} : FOK P T (ρ.f 166) (sp_WriteString (ρ.t 72) (ρ.t 5)) := by
  unfold FOK
  show FOKx P T _ (hs_ws (ρ.t 72) (ρ.t 5))
  intro Z w c args ds ob h _ ⟨bs, s, hds, hob, hl⟩
  subst hds hob
  obtain ⟨b, p, v, g, hid, hbk, hp, hown, hnil, hg⟩ := h.bld_in
  have ht := h.tm
  simp only [RdL] at ht
  obtain ⟨v1, r1, e1, h1, v2, r2, rfl, h2, rfl⟩ := ht
  have h1' := ptr_in h1 hid
  simp only [Rd] at h2
  subst h1' h2
  have ha := arr_ofL e1
  subst ha
  have hu : (u8C bs).length = bs.length := by simp [u8C]
  refine (bld_write L X (xs := u8C bs) ⟨s.toArray⟩ hbk hp (by rw [hu]; exact hown) (fun e => hnil (by simpa [u8C] using e)) (fun x hx => (hg x hx).1) (by rw [hu]; simpa [ByteArray.size] using hl)).mono ?_
  rintro e w' ⟨v', g', rfl, hst⟩
  rw [strCells_u8, ← u8C_app] at hst
  exact ⟨_, _, rfl, h.bstep hid hg hst _⟩
theorem fokx_wb (L : Lays.n167 P ρ) (X : Builder.Extra P ρ) {T : Tb} : FOK P T (ρ.f 167) (sp_WriteByte (ρ.t 72) (ρ.t 5)) := by
  unfold FOK
  show FOKx P T _ (hs_wb (ρ.t 72) (ρ.t 5))
  intro Z w c args ds ob h _ ⟨bs, n, hds, hob, hn0, hn1, hl⟩
  subst hds hob
  obtain ⟨b, p, v, g, hid, hbk, hp, hown, hnil, hg⟩ := h.bld_in
  have ht := h.tm
  simp only [RdL] at ht
  obtain ⟨v1, r1, e1, h1, v2, r2, rfl, h2, rfl⟩ := ht
  have h1' := ptr_in h1 hid
  simp only [Rd] at h2
  subst h1' h2
  have ha := arr_ofL e1
  subst ha
  have hu : (u8C bs).length = bs.length := by simp [u8C]
  refine (bld_byte L X (xs := u8C bs) n hbk hp (by rw [hu]; exact hown) (fun e => hnil (by simpa [u8C] using e)) (fun x hx => (hg x hx).1) (by rw [hu]; exact hl)).mono ?_
  rintro e w' ⟨v', g', rfl, hst⟩
  have hc : u8C [UInt8.ofNat n.toNat] = [.int .u8 n] := by
    simp only [u8C, List.map_cons, List.map_nil, List.cons.injEq, and_true, Value.int.injEq, true_and]
    have : (UInt8.ofNat n.toNat).toNat = n.toNat := by simp; omega
    rw [this]; omega
  rw [← hc, ← u8C_app] at hst
  exact ⟨_, _, rfl, h.bstep hid hg hst _⟩
theorem fokx_bs (L : Lays.n169 P ρ) (X : Builder.Extra P ρ) {T : Tb} : FOK P T (ρ.f 169) (sp_BString (ρ.t 72) (ρ.t 5)) := by
  unfold FOK
  show FOKx P T _ (hs_bs (ρ.t 72) (ρ.t 5))
  intro Z w c args ds ob h _ ⟨bs, hds, hob⟩
  subst hds hob
  obtain ⟨b, p, v, g, hid, hbk, hp, hown, hnil, hg⟩ := h.bld_in
  have ht := h.tm
  simp only [RdL] at ht
  obtain ⟨v1, r1, e1, h1, rfl⟩ := ht
  have h1' := ptr_in h1 hid
  subst h1'
  have ha := arr_ofL e1
  subst ha
  refine (bld_string L X (l := bs) hbk hown hnil).mono ?_
  rintro e w' ⟨rfl, q1, q2, q3, q4, q5⟩
  have hE : Ext c.mine w w' := ⟨q1, q2, q3, q4, fun k hk hm => q5 k hk (fun e => hm (.inr ⟨_, (hg k e).2⟩))⟩
  refine ⟨_, { c with live := fun _ => false }, rfl, ⟨fun k => by simp [St.lk, hs_bs, bldO, List.lookup], ?_, ?_, (fun _ _ _ hk => (Bool.false_ne_true hk).elim), (fun _ _ hk => (Bool.false_ne_true hk).elim), hE, ?_, h.Xb, (fun _ hk => (Bool.false_ne_true hk).elim), rfl, (fun _ _ hk => (Bool.false_ne_true hk).elim), ?_, (fun _ _ _ _ hj => (Bool.false_ne_true hj).elim)⟩⟩
  · simp only [RdL, hs_bs, bldO]; exact ⟨_, [], rfl, by simp only [Rd], rfl⟩
  · intro k o hk; simp [St.lk, hs_bs, bldO, List.lookup] at hk
  · intro i
    refine Rd.mono hE (fun x _ hm => .inr hm) (fun x _ hp => ?_) _ (c := none) (c' := none) trivial (h.gl i)
    rcases hp with hp | ⟨k, hk, _⟩ | hp
    · exact .inl hp
    · cases hk
    · exact .inr (.inr hp)
  · intro x k hk
    obtain ⟨r1, r2, r3⟩ := h.owf x k hk
    exact ⟨r1, r2, Nat.lt_of_lt_of_le r3 q4⟩
end
end Go.Vcg
