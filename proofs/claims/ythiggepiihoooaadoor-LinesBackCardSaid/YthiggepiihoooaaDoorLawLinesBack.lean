/-
  Rows.LinesBackCardSaid: the Go function reredoskeep.LinesBack returns true on all its inputs and leaves what was there as it was. Conditions: that the table of kinds reads as the program text lays it (tied by the card).
-/
import Derived.Test.YthiggepiihoooaaDoorRows
import Derived.Test.YthiggepiihoooaaDoorCards
import Derived.Test.YthiggepiihoooaaDoorTie
import Derived.SevenTiedAt
import Derived.LaidMore
import Derived.Stop.Joined
import Derived.Test.YthiggepiihoooaaDoorLnXLinesBack
import Derived.WalkKit
import Derived.LaidSub
import Derived.Lay
import Derived.OpenShut
import Derived.Stop.LaidErr
import Derived.HandedShaped
import Derived.ProofKit
namespace Go.Proofs.YthiggepiihoooaaDoor.linesBack
open Go.ChangeShapes Go.WideShapes Go.ChangeAt Go.RowKit
set_option linter.unusedVariables false

theorem own : ownKnob Tryd.prog.godebug = none := by kernel_rfl
theorem laidOut : laidOutB Tryd.prog = true := by kernel_rfl
theorem cells3 : Tryd.prog.cellsOf 3 = 1 := by kernel_rfl
theorem cells51 : Tryd.prog.cellsOf 51 = 6 := by kernel_rfl
theorem cellsF51 : Tryd.prog.cellsOf 3 = 1 := by kernel_rfl
theorem fields51 (fs : Array Field) (h : Tryd.prog.underlying 51 = some (.struct fs)) : fs.size = 6 ∧ ∀ i, i < fs.size → ∃ f, fs[i]? = some f ∧ f.offset = i ∧ Tryd.prog.underlying f.type = some (.int .i64) ∧ Tryd.prog.cellsOf f.type = 1 := by
  have hu := Tryd.underlying51
  rw [h] at hu
  injection hu with hu
  injection hu with hu
  subst hu
  refine ⟨rfl, fun i hi => ?_⟩
  have hi' : i < 6 := hi
  have : i = 0 ∨ i = 1 ∨ i = 2 ∨ i = 3 ∨ i = 4 ∨ i = 5 := by omega
  rcases this with rfl | rfl | rfl | rfl | rfl | rfl <;> exact ⟨_, rfl, rfl, Tryd.underlying3, cellsF51⟩

def laid : List (String × DataW Unit) := [("math/bits.deBruijn32tab", Rows.laid_math_bits_deBruijn32tab), ("math/bits.deBruijn64tab", Rows.laid_math_bits_deBruijn64tab), ("internal/strconv.uint64pow10", Rows.laid_internal_strconv_uint64pow10), ("unicode/utf8.acceptRanges", Rows.laid_unicode_utf8_acceptRanges), ("strconv.ErrRange", Rows.laid_strconv_ErrRange), ("strconv.ErrSyntax", Rows.laid_strconv_ErrSyntax), ("reredos/lines.words", Rows.laid_reredos_lines_words), ("reredos/lines.calls", Rows.laid_reredos_lines_calls), ("unicode/utf8.first", Rows.laid_unicode_utf8_first)]
/-- The wrap of a change's contract, with what is laid and the world's shape. -/
theorem handed_and {H : Type} {enc : TypeId × Value → H} {a : Assume} {C : Checked} {os : Os} {f : FuncId} {fn : Func} {s : ChangeSpec} {conds : List PathCond} {apart fresh handsOn again : Bool} {X : World → Array Value → Prop}
    (hX : ∀ (w w' : World) (args : Array Value), w.heap = w'.heap → X w args → X w' args)
    (own : ownKnob C.prog.godebug = none) (started : os.Started) (noInit : C.prog.inits.idxOf? f = none) (hfn : C.prog.funcs[f]? = some fn)
    (witness : ∃ (w : World) (tape : Tape) (i : Input), w.os = os ∧ (w.forCall tape i).Shaped C.prog ∧ i.vars = [] ∧ Input.okWide C.prog (w.forCall tape i) .any w.heap.size f i ∧
      ((s.pre enc C.prog fn conds apart (w.forCall tape i).memory i.args ∧ X (w.forCall tape i).memory i.args) ∧ sizedMet enc C.prog fn (OpenSpec.ofChange s) apart (w.forCall tape i).memory i.args) ∧ a.holds C.prog (lone (Frame.enter C.prog f i.args .normal) [] (w.forCall tape i)))
    (contract : ∀ (W : World) (base : Nat) (args : Array Value) (ds gs : List (DataW H)) (before : List MemPlace),
      (∀ (j : Nat) t v, fn.params[j]? = some t → args[j]? = some v → Value.okWide C.prog W .any base t v) →
      DataW.Whole enc C.prog fn.params.toList s.vars apart W args.toList ds gs before → X W args → W.ShapedOpen C.prog →
      Calls C.prog f args W fun e W' => ∃ v, e = .returned v ∧ s.post enc C.prog fn apart fresh handsOn again W args v W') :
    ReturnsInHanded a C os f .any (fun w args => (s.pre enc C.prog fn conds apart w args ∧ X w args) ∧ sizedMet enc C.prog fn (OpenSpec.ofChange s) apart w args) (s.post enc C.prog fn apart fresh handsOn again) := by
  refine returnsInHanded_of_calls own started noInit witness ?_
  intro w tape i _ hsh _ hok hpre _
  obtain ⟨_, _, _, fn', hfn', _, _, _, _, hval⟩ := hok
  have e : fn' = fn := Option.some.inj (hfn'.symm.trans hfn)
  subst e
  obtain ⟨⟨⟨ds, gs, before, hw, hc⟩, hx⟩, hz⟩ := hpre
  have hw' := DataW.Whole.of_heap (w' := w.forCall tape i) (by rfl) hw
  refine (contract (w.forCall tape i) w.heap.size i.args ds gs before hval hw' (hX _ _ _ (by rfl) hx) hsh).mono fun e W' ⟨v, he, hp⟩ => ?_
  subst he
  exact ChangeSpec.post_blind hp
theorem pow {W : World} (h : laidMetH Tryd.prog laid W) : Lib.TabIs Tryd.prog W "internal/strconv.uint64pow10" .u64 Lib.pow10Tab := by
  have h1 := h.filter (fun x => x.1 == "internal/strconv.uint64pow10")
  have e : laid.filter (fun x => x.1 == "internal/strconv.uint64pow10") = [("internal/strconv.uint64pow10", Lib.tabData .u64 Lib.pow10Tab)] := by kernel_rfl
  rw [e, MakeChecks.laidMetH_plain _ _ _ (by kernel_rfl)] at h1
  exact Lib.tabIs_of_head (g := 3) (t := 110) (e := 101) (n := 20) (by kernel_rfl) (by kernel_rfl) Tryd.underlying110 Tryd.underlying101 (by kernel_rfl) (by kernel_rfl) h1
theorem wordsAt {W : World} (h : laidMetH Tryd.prog laid W) : Vcg.Rd (fun _ => False) W none (.ad 1 (wordsL.map wc) 0 0) (.pointer (some ⟨0, 0, none⟩)) := by
  have h1 := h.filter (fun x => x.1 == "reredos/lines.words")
  have e : laid.filter (fun x => x.1 == "reredos/lines.words") = [("reredos/lines.words", strData wordsL)] := by kernel_rfl
  rw [e, MakeChecks.laidMetH_plain _ _ _ (by kernel_rfl)] at h1
  exact strs_at (t := 64) (e := 9) (n := 9) (by kernel_rfl) (by kernel_rfl) Tryd.underlying64 Tryd.underlying9 (by kernel_rfl) (by kernel_rfl) (by decide) id h1
theorem callsAt {W : World} (h : laidMetH Tryd.prog laid W) : Vcg.Rd (fun _ => False) W none (.ad 1 (callsL.map wc) 0 0) (.pointer (some ⟨1, 0, none⟩)) := by
  have h1 := h.filter (fun x => x.1 == "reredos/lines.calls")
  have e : laid.filter (fun x => x.1 == "reredos/lines.calls") = [("reredos/lines.calls", strData callsL)] := by kernel_rfl
  rw [e, MakeChecks.laidMetH_plain _ _ _ (by kernel_rfl)] at h1
  exact strs_at (t := 81) (e := 9) (n := 6) (by kernel_rfl) (by kernel_rfl) Tryd.underlying81 Tryd.underlying9 (by kernel_rfl) (by kernel_rfl) (by decide) id h1
theorem star : "*" ++ "errors.errorString" = "*errors.errorString" := by decide
theorem rowE (u : TypeId) (h : Tryd.prog.typeName? 3 u = some "*errors.errorString") : u = 139 :=
  typeName_ptr_named (nm := "errors.errorString") (by rw [star]; kernel_rfl) (by kernel_rfl) (by decide) u (by rw [star]; exact h)
theorem errS {W : World} (h : laidMetH Tryd.prog laid W) : ∃ t x, W.var? Tryd.prog "strconv.ErrSyntax" = some #[.iface t x] := by
  have h1 := h.filter (fun x => x.1 == "strconv.ErrSyntax")
  have e : laid.filter (fun x => x.1 == "strconv.ErrSyntax") = [("strconv.ErrSyntax", Rows.laid_strconv_ErrSyntax)] := by kernel_rfl
  rw [e, MakeChecks.laidMetH_plain _ _ _ (by kernel_rfl)] at h1
  obtain ⟨a, s, hv, _⟩ := laid_sentinel (g := 4) (ti := 61) (tp := 139) (te := 141) (ts := 9) h1 (by kernel_rfl) (by kernel_rfl) Tryd.underlying61 rowE Tryd.underlying139 Tryd.underlying141 rfl rfl Tryd.underlying9 (by kernel_rfl) (by kernel_rfl)
  exact ⟨_, _, hv⟩
theorem errR {W : World} (h : laidMetH Tryd.prog laid W) : ∃ t x, W.var? Tryd.prog "strconv.ErrRange" = some #[.iface t x] := by
  have h1 := h.filter (fun x => x.1 == "strconv.ErrRange")
  have e : laid.filter (fun x => x.1 == "strconv.ErrRange") = [("strconv.ErrRange", Rows.laid_strconv_ErrRange)] := by kernel_rfl
  rw [e, MakeChecks.laidMetH_plain _ _ _ (by kernel_rfl)] at h1
  obtain ⟨a, s, hv, _⟩ := laid_sentinel (g := 5) (ti := 61) (tp := 139) (te := 141) (ts := 9) h1 (by kernel_rfl) (by kernel_rfl) Tryd.underlying61 rowE Tryd.underlying139 Tryd.underlying141 rfl rfl Tryd.underlying9 (by kernel_rfl) (by kernel_rfl)
  exact ⟨_, _, hv⟩
/-- What is laid, and the world's shape, in the walks' own words. -/
theorem tabs {W : World} (h : laidMetH Tryd.prog laid W) (hs : W.ShapedOpen Tryd.prog) : ∃ m, ∀ i, Vcg.Rd (fun _ => False) W none (glL m i) (.pointer (some ⟨i, 0, none⟩)) := by
  obtain ⟨m, hm⟩ : ∃ m, W.cell? ⟨2, 0, none⟩ = some (.int .i64 m) := (Tryd.laysM146).s1_3 W hs
  obtain ⟨t1, y1, h1⟩ := errS h
  obtain ⟨t2, y2, h2⟩ := errR h
  have h5 := pow h
  refine ⟨m, fun i => ?_⟩
  unfold glL
  split
  · rename_i hi; subst hi; exact wordsAt h
  split
  · rename_i hi; subst hi; exact callsAt h
  split
  · rename_i hi; subst hi; exact ad_cell hm (by simp [Vcg.Rd])
  split
  · rename_i hi; subst hi; exact xad_of (show Tryd.prog.globalNamed "internal/strconv.uint64pow10" = some 3 by kernel_rfl) h5
  split
  · rename_i hi; subst hi; exact ad_cell (by have := World.var?_cell (show Tryd.prog.globalNamed "strconv.ErrSyntax" = some 4 by kernel_rfl) h1 0; simpa using this) (by simp [Vcg.Rd])
  split
  · rename_i hi; subst hi; exact ad_cell (by have := World.var?_cell (show Tryd.prog.globalNamed "strconv.ErrRange" = some 5 by kernel_rfl) h2 0; simpa using this) (by simp [Vcg.Rd])
  · simp only [Vcg.Rd]

set_option maxHeartbeats 2000000 in
set_option maxRecDepth 100000 in
theorem lifted (os : Os) (started : os.Started) (H : Type) (enc : TypeId × Value → H) :
    ReturnsInHanded {} Tryd.checked os 4 .any (fun w args => (Rows.linesBackSpec.pre enc Tryd.prog Tryd.f4 [] false w args ∧ laidMetH Tryd.prog laid w) ∧ sizedMet enc Tryd.prog Tryd.f4 (OpenSpec.ofChange Rows.linesBackSpec) false w args)
      (Rows.linesBackSpec.post enc Tryd.prog Tryd.f4 false true false false) := by
  refine handed_and (C := Tryd.checked) (X := fun w _ => laidMetH Tryd.prog laid w) (fun _ _ _ hh h => h.of_heap hh) own started (by kernel_rfl) Tryd.func4
    (ChangeSpec.witness_shaped (enc := enc) (C := Tryd.checked) (os := os) (X := fun w _ => laidMetH Tryd.prog laid w) false (World.laidAll Tryd.prog os laid) #[.int .i64 0, .slice none 0 0, .int .i64 0, .slice none 0 0] 8 (World.laidAll_os _ _ _) (World.shaped_of_ZipB (by kernel_rfl) (by kernel_rfl)) (by kernel_rfl) (by kernel_rfl) (by kernel_rfl)
      (by rw [MakeChecks.laidMetH_plain _ _ _ (by kernel_rfl)]; exact laidMet_laidAll _ (by kernel_rfl) (by kernel_rfl))) ?_
  intro W base args ds gs before hval0 hW hL hsh
  have hval : ∀ (j : Nat) t v, Tryd.f4.params[j]? = some t → args[j]? = some v → Value.okWide Tryd.prog W .any base t v := hval0
  have hW' := hW
  have hlt := hW.lt
  obtain ⟨p, q, hA0, hV, rfl, hfz, hnd⟩ := hW
  have hA : DataW.TrodAll enc Tryd.prog W 0 (fun _ => true) true Tryd.f4.params.toList args.toList ds p := hA0
  have hAll := hA
  rw [Tryd.params4] at hA hval
  obtain ⟨v0, vs0, d0, ds0, p0, q0, hargs, rfl, rfl, h0, r0⟩ := trodAll_cons hA
  obtain ⟨v1, vs1, d1, ds1, p1, q1, rfl, rfl, rfl, h1, r1⟩ := trodAll_cons r0
  obtain ⟨v2, vs2, d2, ds2, p2, q2, rfl, rfl, rfl, h2, r2⟩ := trodAll_cons r1
  obtain ⟨v3, vs3, d3, ds3, p3, q3, rfl, rfl, rfl, h3, r3⟩ := trodAll_cons r2
  obtain ⟨rfl, rfl, rfl⟩ := trodAll_nil r3
  obtain rfl : args = #[v0, v1, v2, v3] := by cases args; simp_all
  obtain ⟨rfl, rfl⟩ := trodVars_none hV
  obtain ⟨a0, rfl, rfl, rfl, w0⟩ := open_int Tryd.underlying3 (hval 0 3 v0 rfl rfl) h0
  obtain ⟨a1, g1, w1, l1⟩ := Vcg.ints_read Tryd.underlying29 Tryd.underlying3 cells3 (hval 1 29 v1 rfl rfl) h1
  obtain ⟨a2, rfl, rfl, rfl, w2⟩ := open_int Tryd.underlying3 (hval 2 3 v2 rfl rfl) h2
  obtain ⟨hs3, hf3⟩ := fields51 _ Tryd.underlying51
  obtain ⟨n3, g3, w3, l3⟩ := Vcg.structs_read Tryd.underlying22 Tryd.underlying51 cells51 (by decide) hf3 (hval 3 22 v3 rfl rfl) h3
  obtain ⟨a3, rfl, o3⟩ := rws_of (fun x hx => ⟨(w3 x hx).1.trans hs3, (w3 x hx).2⟩)
  have hrd : Vcg.RdL (fun _ => False) W none [.int .i64 a0, intsD a1, .int .i64 a2, rawsD a3] [.int .i64 a0, v1, .int .i64 a2, v3] := by
    simp only [Vcg.RdL]
    exact ⟨_, _, rfl, by simp only [Vcg.Rd], _, _, rfl, g1, _, _, rfl, by simp only [Vcg.Rd], _, _, rfl, rd_raws g3, rfl⟩
  obtain ⟨m, hgl⟩ := tabs hL hsh
  refine ((fok_LinesBack m).bool rfl hgl hrd ⟨a0, a1, a2, a3, rfl, Vcg.inR_of_wf w0, ⟨w1, by have := l1; simp only [maxLen] at this; omega⟩, Vcg.inR_of_wf w2, ⟨o3, by have := l3; simp only [maxLen, List.length_map] at this; omega⟩⟩ rfl).mono fun e W' ⟨he, hg⟩ => ?_
  subst he
  exact ⟨_, rfl, _, _, _, [], _, [], hW', trodAll_mk1 (shut_bool Tryd.underlying4 _), Vcg.trodAll_below laidOut hg (by kernel_rfl) hAll (fun x hx => hlt x (List.mem_append_left _ hx)), rfl, hg.frame _, fun h => by cases h⟩

theorem over : Rows.linesBackRow.holds Tryd.pinned (OpenSpec.ofChange Rows.linesBackSpec) :=
  OpenClaim.holds_of_wide 4 Tryd.f4 rfl rfl rfl rfl rfl rfl rfl ⟨rfl, rfl, rfl, rfl, rfl⟩ rfl rfl rfl rfl rfl (by kernel_rfl) Tryd.func4 (by kernel_rfl)
    (of_decide_eq_true (by kernel_rfl)) (by unfold Func.isWrapper; first | (rw [if_pos (by decide +kernel)]; kernel_rfl) | (rw [if_neg (by decide +kernel)]; exact ⟨rfl, rfl⟩))
    (fun os started H enc _ => lifted os started H enc)

/-- THE STATEMENT -/
theorem proved : Rows.LinesBackCardSaid :=
  Claim7.holds_tied_plain_at .later [] [.data, .data, .data, .data, .sentinel, .sentinel, .widerDeep, .widerDeep, .pinned] true (true, "b72c7ce17d98a53df0e13b937ba427d322701a59ee92d1d410701daa657693b7") true
    over (fun _ h => by cases h) (by kernel_rfl) (fun _ h => by cases h) linesBack_row_tie rfl ⟨rfl, rfl⟩ (by kernel_rfl) rfl
    (fun f fn hf hfn => by
      obtain rfl : f = 4 := Option.some.inj ((show Tryd.prog.funcNamed "reredos/reredoskeep.LinesBack" = some 4 by kernel_rfl).symm.trans hf) |>.symm
      obtain rfl : fn = Tryd.f4 := (Option.some.inj (Tryd.func4.symm.trans hfn)).symm
      exact ⟨by kernel_rfl, fun j t ht => by
        rw [Tryd.params4] at ht
        have hm : t ∈ [3, 29, 3, 22] := by simpa using Array.mem_of_getElem? ht
        have hall : ([3, 29, 3, 22].all fun u => !Tryd.prog.wantsStandIn u) = true := by kernel_rfl
        exact (show Tryd.prog.wantsStandIn t = false by simpa using List.all_eq_true.1 hall t hm)⟩)
    (by kernel_rfl)
end Go.Proofs.YthiggepiihoooaaDoor.linesBack
