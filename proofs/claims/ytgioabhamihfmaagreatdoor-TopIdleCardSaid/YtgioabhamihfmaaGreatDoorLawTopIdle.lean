/-
  Rows.TopIdleCardSaid: the Go function reredostop.TopIdle returns true on all its inputs and leaves what was there as it was. Conditions: that the table of kinds reads as the program text lays it (tied by the card).
-/
import Derived.Test.YtgioabhamihfmaaGreatDoorRows
import Derived.Test.YtgioabhamihfmaaGreatDoorCards
import Derived.Test.YtgioabhamihfmaaGreatDoorTie
import Derived.SevenTiedAt
import Derived.LaidMore
import Derived.Stop.Joined
import Derived.Test.YtgioabhamihfmaaGreatDoorTiT
import Derived.WalkKit
import Derived.LaidSub
import Derived.Lay
import Derived.OpenShut
import Derived.Stop.LaidErr
import Derived.HandedShaped
import Derived.ProofKit
namespace Go.Proofs.YtgioabhamihfmaaGreatDoor.topIdle
open Go.ChangeShapes Go.WideShapes Go.ChangeAt Go.RowKit
set_option linter.unusedVariables false

theorem own : ownKnob Tryz.prog.godebug = none := by kernel_rfl
theorem laidOut : laidOutB Tryz.prog = true := by kernel_rfl
theorem cells3 : Tryz.prog.cellsOf 3 = 1 := by kernel_rfl
theorem cells81 : Tryz.prog.cellsOf 81 = 6 := by kernel_rfl
theorem cellsF81 : Tryz.prog.cellsOf 3 = 1 := by kernel_rfl
theorem fields81 (fs : Array Field) (h : Tryz.prog.underlying 81 = some (.struct fs)) : fs.size = 6 ∧ ∀ i, i < fs.size → ∃ f, fs[i]? = some f ∧ f.offset = i ∧ Tryz.prog.underlying f.type = some (.int .i64) ∧ Tryz.prog.cellsOf f.type = 1 := by
  have hu := Tryz.underlying81
  rw [h] at hu
  injection hu with hu
  injection hu with hu
  subst hu
  refine ⟨rfl, fun i hi => ?_⟩
  have hi' : i < 6 := hi
  have : i = 0 ∨ i = 1 ∨ i = 2 ∨ i = 3 ∨ i = 4 ∨ i = 5 := by omega
  rcases this with rfl | rfl | rfl | rfl | rfl | rfl <;> exact ⟨_, rfl, rfl, Tryz.underlying3, cellsF81⟩

def laid : List (String × DataW Unit) := [("math/bits.deBruijn32tab", Rows.laid_math_bits_deBruijn32tab), ("math/bits.deBruijn64tab", Rows.laid_math_bits_deBruijn64tab), ("internal/strconv.uint64pow10", Rows.laid_internal_strconv_uint64pow10), ("unicode/utf8.acceptRanges", Rows.laid_unicode_utf8_acceptRanges), ("strconv.ErrRange", Rows.laid_strconv_ErrRange), ("strconv.ErrSyntax", Rows.laid_strconv_ErrSyntax), ("reredos/wire.messages", Rows.laid_reredos_wire_messages), ("reredos/wire.records", Rows.laid_reredos_wire_records), ("unicode/utf8.first", Rows.laid_unicode_utf8_first)]
/-- The wrap of a change's contract, with what is laid and the world's shape. -/
theorem handed_and {H : Type} {enc : TypeId × Value → H} {a : Assume} {C : Checked} {os : Os} {f : FuncId} {fn : Func} {s : ChangeSpec} {conds : List PathCond} {apart fresh handsOn again : Bool} {X : World → Array Value → Prop}
    (hX : ∀ (w w' : World) (args : Array Value), w.heap = w'.heap → X w args → X w' args)
    (own : ownKnob C.prog.godebug = none) (started : os.Started) (noInit : C.prog.inits.idxOf? f = none) (hfn : C.prog.funcs[f]? = some fn)
    (witness : ∃ (w : World) (tape : Tape) (i : Input), w.os = os ∧ (w.forCall tape i).Shaped C.prog ∧ i.vars = [] ∧ Input.okWide C.prog (w.forCall tape i) .any w.heap.size f i ∧
      ((s.pre enc C.prog fn conds apart (w.forCall tape i).memory i.args ∧ X (w.forCall tape i).memory i.args) ∧ sizedMet enc C.prog fn (OpenSpec.ofChange s) apart (w.forCall tape i).memory i.args) ∧ a.holds C.prog (lone (Frame.enter C.prog f i.args .normal) [] (w.forCall tape i)))
    (contract : ∀ (W : World) (base : Nat) (args : Array Value) (ds gs : List (DataW H)) (before : List MemPlace),
      (∀ (j : Nat) t v, fn.params[j]? = some t → args[j]? = some v → Value.okWide C.prog W .any base t v) →
      DataW.Whole enc C.prog fn.params.toList s.vars apart W args.toList ds gs before → X W args → W.ShapedOpen C.prog →
      Calls C.prog f args W fun e W' => ∃ v, e = .returned v ∧ s.post enc C.prog fn apart fresh handsOn again W args v W') :
    ReturnsInHanded a C os f .any (fun w args => (s.pre enc C.prog fn conds apart w args ∧ X w args) ∧ sizedMet enc C.prog fn (OpenSpec.ofChange s) apart w args) (s.post enc C.prog fn apart fresh handsOn again) := by
  refine returnsInHanded_of_calls own started noInit witness ?_
  intro w tape i _ hsh _ hok hpre _
  obtain ⟨_, _, _, fn', hfn', _, _, _, _, hval⟩ := hok
  have e : fn' = fn := Option.some.inj (hfn'.symm.trans hfn)
  subst e
  obtain ⟨⟨⟨ds, gs, before, hw, hc⟩, hx⟩, hz⟩ := hpre
  have hw' := DataW.Whole.of_heap (w' := w.forCall tape i) (by rfl) hw
  refine (contract (w.forCall tape i) w.heap.size i.args ds gs before hval hw' (hX _ _ _ (by rfl) hx) hsh).mono fun e W' ⟨v, he, hp⟩ => ?_
  subst he
  exact ChangeSpec.post_blind hp
theorem gT : Tryz.prog.globalNamed "reredos/wire.records" = some 1 := by kernel_rfl
theorem tT : (Tryz.prog.globals[1]?).map (·.type) = some 293 := by kernel_rfl
theorem fieldsT (fs : Array Field) (h : Tryz.prog.underlying 275 = some (.struct fs)) : fs.size = 8 ∧ ∀ i, i < fs.size → ∃ f, fs[i]? = some f ∧ f.offset = i ∧ Tryz.prog.underlying f.type = some .bool ∧ Tryz.prog.cellsOf f.type = 1 := by
  have hu := Tryz.underlying275
  rw [h] at hu
  injection hu with hu
  injection hu with hu
  subst hu
  refine ⟨rfl, fun i hi => ?_⟩
  have hi' : i < 8 := hi
  have : i = 0 ∨ i = 1 ∨ i = 2 ∨ i = 3 ∨ i = 4 ∨ i = 5 ∨ i = 6 ∨ i = 7 := by omega
  rcases this with rfl | rfl | rfl | rfl | rfl | rfl | rfl | rfl <;> exact ⟨_, rfl, rfl, Tryz.underlying4, by kernel_rfl⟩
/-- What the condition says of the table's memory. -/
theorem table {W : World} (h : laidMetH Tryz.prog laid W) : Vcg.Rd (fun _ => False) W none (.ad 8 recT 0 0) (.pointer (some ⟨1, 0, none⟩)) := by
  have h1 := h.filter (fun x => x.1 == "reredos/wire.records")
  have e : laid.filter (fun x => x.1 == "reredos/wire.records") = [("reredos/wire.records", Rows.laid_reredos_wire_records)] := by kernel_rfl
  rw [e, MakeChecks.laidMetH_plain _ _ _ (by kernel_rfl)] at h1
  obtain ⟨ps, ⟨g0, t0, cs0, f0, p0, q0, hg0, ht0, hv0, hd0, _, _⟩, _, _⟩ := h1
  obtain rfl := Option.some.inj (gT.symm.trans hg0)
  obtain rfl := Option.some.inj (tT.symm.trans ht0)
  obtain ⟨hs, hf⟩ := fieldsT _ Tryz.underlying275
  have hE := Vcg.bools_table Tryz.underlying293 Tryz.underlying275 (by kernel_rfl) (by kernel_rfl) hf hd0 (tb := [[false, false, false, false, false, false, false, false], [false, true, true, false, true, false, false, false], [false, false, false, false, false, true, false, false], [false, false, false, false, false, false, false, true], [false, false, false, false, false, false, false, false], [false, false, false, false, false, false, false, false], [false, false, false, false, false, true, false, false]]) rfl (X := fun _ => False)
  have hE' : Vcg.RdE (fun _ => False) W 8 recT cs0.toList := hE
  exact Vcg.table_at gT hv0 hE' id (by decide) (by decide)
/-- What is laid, in the walks' own words. -/
theorem tabs {W : World} (h : laidMetH Tryz.prog laid W) : ∀ i, Vcg.Rd (fun _ => False) W none (glT i) (.pointer (some ⟨i, 0, none⟩)) := by
  intro i
  unfold glT
  split
  · rename_i hi; subst hi; exact table h
  · simp only [Vcg.gl0, Vcg.Rd]

set_option maxHeartbeats 2000000 in
set_option maxRecDepth 100000 in
theorem lifted (os : Os) (started : os.Started) (H : Type) (enc : TypeId × Value → H) :
    ReturnsInHanded {} Tryz.checked os 9 .any (fun w args => (Rows.topIdleSpec.pre enc Tryz.prog Tryz.f9 [] false w args ∧ laidMetH Tryz.prog laid w) ∧ sizedMet enc Tryz.prog Tryz.f9 (OpenSpec.ofChange Rows.topIdleSpec) false w args)
      (Rows.topIdleSpec.post enc Tryz.prog Tryz.f9 false true false false) := by
  refine handed_and (C := Tryz.checked) (X := fun w _ => laidMetH Tryz.prog laid w) (fun _ _ _ hh h => h.of_heap hh) own started (by kernel_rfl) Tryz.func9
    (ChangeSpec.witness_shaped (enc := enc) (C := Tryz.checked) (os := os) (X := fun w _ => laidMetH Tryz.prog laid w) false (World.laidAll Tryz.prog os laid) #[.int .i64 0, .slice none 0 0, .int .i64 0, .slice none 0 0] 8 (World.laidAll_os _ _ _) (World.shaped_of_ZipB (by kernel_rfl) (by kernel_rfl)) (by kernel_rfl) (by kernel_rfl) (by kernel_rfl)
      (by rw [MakeChecks.laidMetH_plain _ _ _ (by kernel_rfl)]; exact laidMet_laidAll _ (by kernel_rfl) (by kernel_rfl))) ?_
  intro W base args ds gs before hval0 hW hL hsh
  have hval : ∀ (j : Nat) t v, Tryz.f9.params[j]? = some t → args[j]? = some v → Value.okWide Tryz.prog W .any base t v := hval0
  have hW' := hW
  have hlt := hW.lt
  obtain ⟨p, q, hA0, hV, rfl, hfz, hnd⟩ := hW
  have hA : DataW.TrodAll enc Tryz.prog W 0 (fun _ => true) true Tryz.f9.params.toList args.toList ds p := hA0
  have hAll := hA
  rw [Tryz.params9] at hA hval
  obtain ⟨v0, vs0, d0, ds0, p0, q0, hargs, rfl, rfl, h0, r0⟩ := trodAll_cons hA
  obtain ⟨v1, vs1, d1, ds1, p1, q1, rfl, rfl, rfl, h1, r1⟩ := trodAll_cons r0
  obtain ⟨v2, vs2, d2, ds2, p2, q2, rfl, rfl, rfl, h2, r2⟩ := trodAll_cons r1
  obtain ⟨v3, vs3, d3, ds3, p3, q3, rfl, rfl, rfl, h3, r3⟩ := trodAll_cons r2
  obtain ⟨rfl, rfl, rfl⟩ := trodAll_nil r3
  obtain rfl : args = #[v0, v1, v2, v3] := by cases args; simp_all
  obtain ⟨rfl, rfl⟩ := trodVars_none hV
  obtain ⟨a0, rfl, rfl, rfl, w0⟩ := open_int Tryz.underlying3 (hval 0 3 v0 rfl rfl) h0
  obtain ⟨a1, g1, w1, l1⟩ := Vcg.ints_read Tryz.underlying22 Tryz.underlying3 cells3 (hval 1 22 v1 rfl rfl) h1
  obtain ⟨a2, rfl, rfl, rfl, w2⟩ := open_int Tryz.underlying3 (hval 2 3 v2 rfl rfl) h2
  obtain ⟨hs3, hf3⟩ := fields81 _ Tryz.underlying81
  obtain ⟨n3, g3, w3, l3⟩ := Vcg.structs_read Tryz.underlying23 Tryz.underlying81 cells81 (by decide) hf3 (hval 3 23 v3 rfl rfl) h3
  obtain ⟨a3, rfl, o3⟩ := rws_of (fun x hx => ⟨(w3 x hx).1.trans hs3, (w3 x hx).2⟩)
  have hrd : Vcg.RdL (fun _ => False) W none [.int .i64 a0, intsD a1, .int .i64 a2, rawsD a3] [.int .i64 a0, v1, .int .i64 a2, v3] := by
    simp only [Vcg.RdL]
    exact ⟨_, _, rfl, by simp only [Vcg.Rd], _, _, rfl, g1, _, _, rfl, by simp only [Vcg.Rd], _, _, rfl, rd_raws g3, rfl⟩
  have hgl := tabs hL
  refine ((fok_TopIdle).bool rfl hgl hrd ⟨a0, a1, a2, a3, rfl, Vcg.inR_of_wf w0, ⟨w1, by have := l1; simp only [maxLen] at this; omega⟩, Vcg.inR_of_wf w2, ⟨o3, by have := l3; simp only [maxLen, List.length_map] at this; omega⟩⟩ rfl).mono fun e W' ⟨he, hg⟩ => ?_
  subst he
  exact ⟨_, rfl, _, _, _, [], _, [], hW', trodAll_mk1 (shut_bool Tryz.underlying4 _), Vcg.trodAll_below laidOut hg (by kernel_rfl) hAll (fun x hx => hlt x (List.mem_append_left _ hx)), rfl, hg.frame _, fun h => by cases h⟩

theorem i1 : Tryz.prog.inPlace 9 = Rows.topIdleRow.inPlace := by kernel_rfl
theorem i2 : Tryz.prog.unfollowed 9 = Rows.topIdleRow.unfollowed := by kernel_rfl
theorem i3 : Tryz.prog.recurses 9 = Rows.topIdleRow.recurses := by kernel_rfl
theorem i4 : Tryz.prog.varsNamed 9 = Rows.topIdleRow.named := by kernel_rfl
theorem closed : joinedFacts Tryz.prog 9 Tryz.f9 Rows.topIdleSpec Rows.topIdleRow = true := by
  unfold joinedFacts
  rw [i1, i2, i3, i4]
  kernel_rfl

theorem over : Rows.topIdleRow.holds Tryz.pinned (OpenSpec.ofChange Rows.topIdleSpec) :=
  OpenClaim.holds_of_wide 9 Tryz.f9 rfl rfl rfl rfl rfl rfl rfl ⟨rfl, rfl, rfl, rfl, rfl⟩ rfl rfl rfl rfl rfl (by kernel_rfl) Tryz.func9 closed
    (of_decide_eq_true (by kernel_rfl)) (by unfold Func.isWrapper; first | (rw [if_pos (by decide +kernel)]; kernel_rfl) | (rw [if_neg (by decide +kernel)]; exact ⟨rfl, rfl⟩))
    (fun os started H enc _ => lifted os started H enc)

/-- THE STATEMENT -/
theorem proved : Rows.TopIdleCardSaid :=
  Claim7.holds_tied_plain_at .later [] [.data, .data, .data, .data, .sentinel, .sentinel, .data, .data, .pinned] true (true, "b2d1b8464ca706b72266ff0ead52e1413f403a649700bde3fc5495debd84e300") true
    over (fun _ h => by cases h) (by kernel_rfl) (fun _ h => by cases h) topIdle_row_tie rfl ⟨rfl, rfl⟩ (by kernel_rfl) rfl
    (fun f fn hf hfn => by
      obtain rfl : f = 9 := Option.some.inj ((show Tryz.prog.funcNamed "reredos/reredostop.TopIdle" = some 9 by kernel_rfl).symm.trans hf) |>.symm
      obtain rfl : fn = Tryz.f9 := (Option.some.inj (Tryz.func9.symm.trans hfn)).symm
      exact ⟨by kernel_rfl, fun j t ht => by
        rw [Tryz.params9] at ht
        have hm : t ∈ [3, 22, 3, 23] := by simpa using Array.mem_of_getElem? ht
        have hall : ([3, 22, 3, 23].all fun u => !Tryz.prog.wantsStandIn u) = true := by kernel_rfl
        exact (show Tryz.prog.wantsStandIn t = false by simpa using List.all_eq_true.1 hall t hm)⟩)
    (by kernel_rfl)
end Go.Proofs.YtgioabhamihfmaaGreatDoor.topIdle
