/-
  Functions of the library, taken by the kit's contracts, as the walks meet them: strings.Split, strconv.Itoa, strconv.Atoi. Conditions: those of each specification's 'pre'.
-/
import Derived.Test.YthiggepiihoooaaDoorCsL
import Derived.Test.YthiggepiihoooaaDoorShelf
import Derived.Lib.UnsafeStr
set_option linter.unusedVariables false
set_option linter.unusedSimpArgs false
namespace Go.Proofs.YthiggepiihoooaaDoor
open Go Go.Vcg Go.RowKit Go.Sort

def pow10C : List D := Lib.pow10Tab.map fun z => D.int .u64 z

section
variable {X : Nat → Prop} {w : World}
theorem str1_of {vs : List Value} {s : List UInt8} (h : RdL X w none [.str s] vs) : vs = [.string ⟨s.toArray⟩] := by
  simp only [RdL, Rd] at h
  obtain ⟨v, r, rfl, rfl, rfl⟩ := h
  rfl
theorem str2_of {vs : List Value} {s t : List UInt8} (h : RdL X w none [.str s, .str t] vs) : vs = [.string ⟨s.toArray⟩, .string ⟨t.toArray⟩] := by
  simp only [RdL, Rd] at h
  obtain ⟨v, r, rfl, rfl, v2, r2, rfl, rfl, rfl⟩ := h
  rfl
theorem int1_of {vs : List Value} {k : IntKind} {n : Int} (h : RdL X w none [.int k n] vs) : vs = [.int k n] := by
  simp only [RdL, Rd] at h
  obtain ⟨v, r, rfl, rfl, rfl⟩ := h
  rfl
theorem arr_of {args : Array Value} {l : List Value} (h : args.toList = l) : args = l.toArray := by rw [← h]
/-- One cell that is known. -/
theorem cell_ad {g : Nat} {d : D} (h : Rd X w none (.ad 1 [[d]] 0 0) (.pointer (some ⟨g, 0, none⟩))) : ∃ v, w.cell? ⟨g, 0, none⟩ = some v ∧ Rd X w none d v := by
  simp only [Rd] at h
  obtain ⟨b, o, vs, hp, _, _, hc, hr⟩ := h
  simp only [Value.pointer.injEq, Option.some.injEq, Addr.mk.injEq] at hp
  obtain ⟨rfl, ho, _⟩ := hp
  simp only [RdE] at hr
  obtain ⟨v1, v2, rfl, h1, h2, h3⟩ := hr
  simp only [RdL] at h2
  obtain ⟨v, r, rfl, hv, rfl⟩ := h2
  refine ⟨v, ?_, hv⟩
  have := hc.cell (j := 0) (v := v) (by simp)
  have e : o + 0 = 0 := by omega
  rw [e] at this
  exact this
/-- A table that is known whole. -/
theorem tab_xad {P : Program} {g : Nat} {name : String} {k : IntKind} {zs : List Int} (hn : P.globalNamed name = some g) (h : Rd X w none (.xad (zs.map fun z => D.int k z)) (.pointer (some ⟨g, 0, none⟩))) : Lib.TabIs P w name k zs := by
  simp only [Rd] at h
  obtain ⟨b, T, fr, vs, hp, _, hb, hr⟩ := h
  simp only [Value.pointer.injEq, Option.some.injEq, Addr.mk.injEq] at hp
  obtain ⟨rfl, _⟩ := hp
  have : ∀ (zs : List Int) (vs : List Value), RdL X w none (zs.map fun z => D.int k z) vs → vs = zs.map fun z => Value.int k z := by
    intro zs
    induction zs with
    | nil => intro vs h; simpa only [List.map_nil, RdL] using h
    | cons z r ih =>
      intro vs h
      simp only [List.map_cons, RdL, Rd] at h
      obtain ⟨v, r', rfl, rfl, h⟩ := h
      rw [ih _ h]; rfl
  have hv := this zs vs hr
  subst hv
  unfold Lib.TabIs World.var?
  rw [hn]
  simp [hb]
end
/-- One cell that is known, from the world. -/
theorem ad_cell {w : World} {g : Nat} {d : D} {v : Value} (h : w.cell? ⟨g, 0, none⟩ = some v) (hd : Rd (fun _ => False) w none d v) : Rd (fun _ => False) w none (.ad 1 [[d]] 0 0) (.pointer (some ⟨g, 0, none⟩)) := by
  unfold World.cell? at h
  split at h
  · rename_i c T fr hb
    simp only [Option.isSome_none, Bool.false_eq_true, if_false] at h
    simp only [Rd]
    refine ⟨g, 0, [v], rfl, id, by simp, ⟨c, T, fr, hb, fun j u hj => ?_⟩, ?_⟩
    · cases j with
      | zero => simp at hj; subst hj; simpa using h
      | succ j => simp at hj
    · simp only [RdE, RdL]
      exact ⟨[v], [], rfl, rfl, ⟨v, [], rfl, hd, rfl⟩, rfl⟩
  · cases h
theorem xad_of {P : Program} {w : World} {g : Nat} {name : String} (hn : P.globalNamed name = some g) (h : Lib.TabIs P w name .u64 Lib.pow10Tab) : Rd (fun _ => False) w none (.xad pow10C) (.pointer (some ⟨g, 0, none⟩)) := by
  unfold Lib.TabIs World.var? at h
  rw [hn] at h
  simp only [Option.bind_some] at h
  split at h
  · rename_i c T fr hb
    simp only [Option.some.injEq] at h
    subst h
    simp only [Rd]
    refine ⟨g, T, fr, _, rfl, id, hb, ?_⟩
    unfold pow10C
    generalize Lib.pow10Tab = zs
    induction zs with
    | nil => simp [RdL]
    | cons z r ih =>
      simp only [List.map_cons, RdL]
      exact ⟨_, _, rfl, by simp only [Rd], ih⟩
  · cases h
theorem below_grw (w : World) (k : Nat) (os : Array Obj) : Below w.heap.size w (grow (w.drewN k) os) :=
  ⟨rfl, rfl, rfl, by simp [grow, World.drewN], fun j hj => by simp [grow, World.drewN, Array.getElem?_append_left hj]⟩
theorem tryd_pow : Tryd.prog.globalNamed "internal/strconv.uint64pow10" = some 3 := by kernel_rfl
theorem fok_Split {gl : Nat → D} {m : Int} (hm0 : gl 2 = .ad 1 [[.int .i64 m]] 0 0) {l : List (Nat × Sp)} : FOK Tryd.prog (tb gl l) 37 sp_Split := by
  unfold FOK
  show ∀ (X : Nat → Prop) (w : World) (args : Array Value) (ds : List D), _
  intro X w args ds hX hgl hrd ⟨s, c, hds, hs⟩
  subst hds
  have hargs := arr_of (str2_of hrd)
  subst hargs
  have h0 := hgl 2
  have e0 : (tb gl l).gl 2 = .ad 1 [[.int .i64 m]] 0 0 := hm0
  rw [e0] at h0
  obtain ⟨v, hv, hr⟩ := cell_ad h0
  simp only [Rd] at hr
  subst hr
  have hsz : (⟨s.toArray⟩ : ByteArray).size = s.length := by simp [ByteArray.size]
  have hc1 : (⟨[c].toArray⟩ : ByteArray).size = 1 := by simp [ByteArray.size]
  refine (Tryd.strings_Split ⟨s.toArray⟩ ⟨[c].toArray⟩ m w (by rw [hsz]; omega) hv (by rw [hc1]; omega)).mono ?_
  rintro e w' ⟨rfl, rfl⟩
  refine ⟨_, rfl, ?_, Ext.of_below ((Below.refl w.heap.size w).alloc (Nat.le_refl _) _) _⟩
  have hlen := Lib.splitB_all ⟨[c].toArray⟩ (by rw [hc1]; omega) 0 (Lib.countB ⟨s.toArray⟩ ⟨[c].toArray⟩) ⟨s.toArray⟩ rfl
  have hdat := Lib.splitB_data ⟨[c].toArray⟩ 0 (Lib.countB ⟨s.toArray⟩ ⟨[c].toArray⟩) ⟨s.toArray⟩
  have hsp : Lib.split s [c] = (Lib.splitB ⟨[c].toArray⟩ 0 (Lib.countB ⟨s.toArray⟩ ⟨[c].toArray⟩) ⟨s.toArray⟩).map (·.data.toList) := by
    rw [hdat]; rfl
  have hF : sp_Split.F [.str s, .str [c]] = .fz 1 ((Lib.split s [c]).map wc) := rfl
  rw [hF, hsp]
  have hcl := Lib.countB_le ⟨[c].toArray⟩ (by rw [hc1]; omega) s.length ⟨s.toArray⟩ (by rw [hsz]; omega)
  generalize Lib.splitB ⟨[c].toArray⟩ 0 (Lib.countB ⟨s.toArray⟩ ⟨[c].toArray⟩) ⟨s.toArray⟩ = L at hlen ⊢
  simp only [Rd]
  refine .inr ⟨w.heap.size, 0, Lib.countB ⟨s.toArray⟩ ⟨[c].toArray⟩ + 1, L.map Value.string, ?_, ?_, ?_, hX _ (Nat.le_refl _), ?_, ?_, ?_⟩
  · simp [hlen]
  · simp [hlen]
  · simp only [maxLen]; rw [hsz] at hcl; omega
  · have := CellsAt.of_arr (w := w.alloc (.cells (L.map Value.string).toArray 9)) (b := w.heap.size) (arr := (L.map Value.string).toArray) (U := 9) (fr := (0, 0)) (by simp [World.alloc, -World.alloc_eq])
    simpa using this
  · generalize w.alloc (.cells (L.map Value.string).toArray 9) = w2
    clear hlen
    induction L with
    | nil => simp [RdE]
    | cons x L ih =>
      simp only [List.map_cons, RdE]
      exact ⟨[.string x], L.map Value.string, rfl, rfl, by simp [RdL, wc, Rd], ih⟩
  · intro u hu
    obtain ⟨x, _, rfl⟩ := List.mem_map.1 hu
    rfl
theorem fok_Itoa {gl : Nat → D} (hp0 : gl 3 = .xad pow10C) {l : List (Nat × Sp)} : FOK Tryd.prog (tb gl l) 20 sp_Itoa := by
  unfold FOK
  show ∀ (X : Nat → Prop) (w : World) (args : Array Value) (ds : List D), _
  intro X w args ds hX hgl hrd ⟨n, hds, hn⟩
  subst hds
  have hargs := arr_of (int1_of hrd)
  subst hargs
  have h5 := hgl 3
  have e5 : (tb gl l).gl 3 = .xad pow10C := hp0
  rw [e5] at h5
  have ht := tab_xad (P := Tryd.prog) tryd_pow h5
  refine (Tryd.strconv_Itoa n hn.1 hn.2 w ht).mono ?_
  rintro e w' ⟨rfl, k, os, rfl⟩
  exact ⟨_, rfl, by simp only [sp_Itoa, Rd], Ext.of_below (below_grw w k os) _⟩
theorem err_cell {X : Nat → Prop} {w : World} {g : Nat} (h : Rd X w none (.ad 1 [[.err none]] 0 0) (.pointer (some ⟨g, 0, none⟩))) : ∃ v, w.cell? ⟨g, 0, none⟩ = some v ∧ (v = .nilIface ∨ ∃ te pe, v = .iface te pe) := by
  obtain ⟨v, hv, hr⟩ := cell_ad h
  simp only [Rd] at hr
  exact ⟨v, hv, hr.imp (fun h => h.1) fun h => h.1⟩
theorem fok_Atoi {gl : Nat → D} (hs0 : gl 4 = .ad 1 [[.err none]] 0 0) (hr0 : gl 5 = .ad 1 [[.err none]] 0 0) {l : List (Nat × Sp)} : FOK Tryd.prog (tb gl l) 49 sp_Atoi := by
  unfold FOK
  show ∀ (X : Nat → Prop) (w : World) (args : Array Value) (ds : List D), _
  intro X w args ds hX hgl hrd ⟨s, hds, hs⟩
  subst hds
  have hargs := arr_of (str1_of hrd)
  subst hargs
  have hsz : (⟨s.toArray⟩ : ByteArray).size = s.length := by simp [ByteArray.size]
  have hF : sp_Atoi.F [.str s] = .tup [.int .i64 (atoiV s), .err (some (atoiOk s))] := rfl
  rw [hF]
  cases ha : Lib.atoiAll s
  · rename_i n
    have e1 : atoiV s = n := by unfold atoiV; rw [ha]
    have e2 : atoiOk s = true := by unfold atoiOk; rw [ha]
    rw [e1, e2]
    refine (Tryd.strconv_Atoi_ok ⟨s.toArray⟩ (by rw [hsz]; omega) n ha w).mono ?_
    rintro e w' ⟨rfl, hw⟩
    refine ⟨_, rfl, by simp only [Rd, RdL]; exact ⟨_, rfl, _, _, rfl, rfl, _, _, rfl, .inl ⟨rfl, by simp⟩, rfl⟩, ?_⟩
    rcases hw with rfl | ⟨t, rfl⟩
    · exact Ext.refl _ _
    · exact Ext.of_below (by unfold Lib.bytesWorld; exact Lib.below_freeze (((Below.refl w.heap.size w).drew).alloc (Nat.le_refl _) _) (Nat.le_refl _) _) _
  · skip
    have e1 : atoiV s = 0 := by unfold atoiV; rw [ha]
    have e2 : atoiOk s = false := by unfold atoiOk; rw [ha]
    rw [e1, e2]
    have hg1 := hgl 4
    rw [show (tb gl l).gl 4 = .ad 1 [[.err none]] 0 0 from hs0] at hg1
    obtain ⟨v, hv, hr⟩ := err_cell hg1
    refine (Tryd.strconv_Atoi_syntax ⟨s.toArray⟩ (by rw [hsz]; omega) ha v w hv hr).mono ?_
    rintro e w' ⟨N, rfl, _, _, hb⟩
    exact ⟨_, rfl, by simp only [Rd, RdL]; exact ⟨_, rfl, _, _, rfl, rfl, _, _, rfl, .inr ⟨⟨_, _, rfl⟩, by simp⟩, rfl⟩, Ext.of_below hb _⟩
  · skip
    have e1 : atoiV s = Lib.atoiSat s := by unfold atoiV; rw [ha]
    have e2 : atoiOk s = false := by unfold atoiOk; rw [ha]
    rw [e1, e2]
    have hg2 := hgl 5
    rw [show (tb gl l).gl 5 = .ad 1 [[.err none]] 0 0 from hr0] at hg2
    obtain ⟨v, hv, hr⟩ := err_cell hg2
    refine (Tryd.strconv_Atoi_range ⟨s.toArray⟩ (by rw [hsz]; omega) ha v w hv hr).mono ?_
    rintro e w' ⟨N, rfl, _, _, hb⟩
    exact ⟨_, rfl, by simp only [Rd, RdL]; exact ⟨_, rfl, _, _, rfl, rfl, _, _, rfl, .inr ⟨⟨_, _, rfl⟩, by simp⟩, rfl⟩, Ext.of_below hb _⟩
end Go.Proofs.YthiggepiihoooaaDoor
