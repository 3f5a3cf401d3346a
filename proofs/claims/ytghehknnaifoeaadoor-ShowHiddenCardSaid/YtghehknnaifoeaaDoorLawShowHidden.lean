/-
  Rows.ShowHiddenCardSaid: the Go function reredoskeep.ShowHidden returns true on all its inputs and leaves what was there as it was. Conditions: that the table of kinds reads as the program text lays it (tied by the card).
-/
import Derived.Test.YtghehknnaifoeaaDoorRows
import Derived.Test.YtghehknnaifoeaaDoorCards
import Derived.Test.YtghehknnaifoeaaDoorTie
import Derived.SevenTiedAt
import Derived.LaidMore
import Derived.Stop.Joined
import Derived.Test.YtghehknnaifoeaaDoorShXShowHidden
import Derived.WalkKit
import Derived.LaidSub
import Derived.Lay
import Derived.OpenShut
import Derived.Stop.LaidErr
import Derived.HandedShaped
import Derived.ProofKit
namespace Go.Proofs.YtghehknnaifoeaaDoor.showHidden
open Go.ChangeShapes Go.WideShapes Go.ChangeAt Go.RowKit
set_option linter.unusedVariables false

theorem own : ownKnob Tryd.prog.godebug = none := by kernel_rfl
theorem laidOut : laidOutB Tryd.prog = true := by kernel_rfl
theorem cells73 : Tryd.prog.cellsOf 73 = 6 := by kernel_rfl
theorem cellsF73 : Tryd.prog.cellsOf 3 = 1 := by kernel_rfl
theorem fields73 (fs : Array Field) (h : Tryd.prog.underlying 73 = some (.struct fs)) : fs.size = 6 ∧ ∀ i, i < fs.size → ∃ f, fs[i]? = some f ∧ f.offset = i ∧ Tryd.prog.underlying f.type = some (.int .i64) ∧ Tryd.prog.cellsOf f.type = 1 := by
  have hu := Tryd.underlying73
  rw [h] at hu
  injection hu with hu
  injection hu with hu
  subst hu
  refine ⟨rfl, fun i hi => ?_⟩
  have hi' : i < 6 := hi
  have : i = 0 ∨ i = 1 ∨ i = 2 ∨ i = 3 ∨ i = 4 ∨ i = 5 := by omega
  rcases this with rfl | rfl | rfl | rfl | rfl | rfl <;> exact ⟨_, rfl, rfl, Tryd.underlying3, cellsF73⟩

def laid : List (String × DataW Unit) := [("math/bits.deBruijn32tab", Rows.laid_math_bits_deBruijn32tab), ("math/bits.deBruijn64tab", Rows.laid_math_bits_deBruijn64tab), ("internal/strconv.uint64pow10", Rows.laid_internal_strconv_uint64pow10)]
/-- The wrap of a change's contract, with what is laid and the world's shape. -/
theorem handed_and {H : Type} {enc : TypeId × Value → H} {a : Assume} {C : Checked} {os : Os} {f : FuncId} {fn : Func} {s : ChangeSpec} {conds : List PathCond} {apart fresh handsOn again : Bool} {X : World → Array Value → Prop}
    (hX : ∀ (w w' : World) (args : Array Value), w.heap = w'.heap → X w args → X w' args)
    (own : ownKnob C.prog.godebug = none) (started : os.Started) (noInit : C.prog.inits.idxOf? f = none) (hfn : C.prog.funcs[f]? = some fn)
    (witness : ∃ (w : World) (tape : Tape) (i : Input), w.os = os ∧ (w.forCall tape i).Shaped C.prog ∧ i.vars = [] ∧ Input.okWide C.prog (w.forCall tape i) .any w.heap.size f i ∧
      ((s.pre enc C.prog fn conds apart (w.forCall tape i).memory i.args ∧ X (w.forCall tape i).memory i.args) ∧ sizedMet enc C.prog fn (OpenSpec.ofChange s) apart (w.forCall tape i).memory i.args) ∧ a.holds C.prog (lone (Frame.enter C.prog f i.args .normal) [] (w.forCall tape i)))
    (contract : ∀ (W : World) (base : Nat) (args : Array Value) (ds gs : List (DataW H)) (before : List MemPlace),
      (∀ (j : Nat) t v, fn.params[j]? = some t → args[j]? = some v → Value.okWide C.prog W .any base t v) →
      DataW.Whole enc C.prog fn.params.toList s.vars apart W args.toList ds gs before → X W args → W.ShapedOpen C.prog →
      Calls C.prog f args W fun e W' => ∃ v, e = .returned v ∧ s.post enc C.prog fn apart fresh handsOn again W args v W') :
    ReturnsInHanded a C os f .any (fun w args => (s.pre enc C.prog fn conds apart w args ∧ X w args) ∧ sizedMet enc C.prog fn (OpenSpec.ofChange s) apart w args) (s.post enc C.prog fn apart fresh handsOn again) := by
  refine returnsInHanded_of_calls own started noInit witness ?_
  intro w tape i _ hsh _ hok hpre _
  obtain ⟨_, _, _, fn', hfn', _, _, _, _, hval⟩ := hok
  have e : fn' = fn := Option.some.inj (hfn'.symm.trans hfn)
  subst e
  obtain ⟨⟨⟨ds, gs, before, hw, hc⟩, hx⟩, hz⟩ := hpre
  have hw' := DataW.Whole.of_heap (w' := w.forCall tape i) (by rfl) hw
  refine (contract (w.forCall tape i) w.heap.size i.args ds gs before hval hw' (hX _ _ _ (by rfl) hx) hsh).mono fun e W' ⟨v, he, hp⟩ => ?_
  subst he
  exact ChangeSpec.post_blind hp
theorem pow {W : World} (h : laidMetH Tryd.prog laid W) : Lib.TabIs Tryd.prog W "internal/strconv.uint64pow10" .u64 Lib.pow10Tab := by
  have h1 := h.filter (fun x => x.1 == "internal/strconv.uint64pow10")
  have e : laid.filter (fun x => x.1 == "internal/strconv.uint64pow10") = [("internal/strconv.uint64pow10", Lib.tabData .u64 Lib.pow10Tab)] := by kernel_rfl
  rw [e, MakeChecks.laidMetH_plain _ _ _ (by kernel_rfl)] at h1
  exact Lib.tabIs_of_head (g := 0) (t := 133) (e := 125) (n := 20) (by kernel_rfl) (by kernel_rfl) Tryd.underlying133 Tryd.underlying125 (by kernel_rfl) (by kernel_rfl) h1
/-- What is laid, in the walks' own words. -/
theorem tabs {W : World} (h : laidMetH Tryd.prog laid W) : ∀ i, Vcg.Rd (fun _ => False) W none (glP i) (.pointer (some ⟨i, 0, none⟩)) := by
  have h5 := pow h
  intro i
  unfold glP
  split
  · rename_i hi; subst hi; exact xad_of (show Tryd.prog.globalNamed "internal/strconv.uint64pow10" = some 0 by kernel_rfl) h5
  · simp only [Vcg.Rd]

set_option maxHeartbeats 2000000 in
set_option maxRecDepth 100000 in
theorem lifted (os : Os) (started : os.Started) (H : Type) (enc : TypeId × Value → H) :
    ReturnsInHanded {} Tryd.checked os 3 .any (fun w args => (Rows.showHiddenSpec.pre enc Tryd.prog Tryd.f3 [] false w args ∧ laidMetH Tryd.prog laid w) ∧ sizedMet enc Tryd.prog Tryd.f3 (OpenSpec.ofChange Rows.showHiddenSpec) false w args)
      (Rows.showHiddenSpec.post enc Tryd.prog Tryd.f3 false true false false) := by
  refine handed_and (C := Tryd.checked) (X := fun w _ => laidMetH Tryd.prog laid w) (fun _ _ _ hh h => h.of_heap hh) own started (by kernel_rfl) Tryd.func3
    (ChangeSpec.witness_shaped (enc := enc) (C := Tryd.checked) (os := os) (X := fun w _ => laidMetH Tryd.prog laid w) false (World.laidAll Tryd.prog os laid) #[.slice none 0 0, .slice none 0 0, .slice none 0 0, .int .i64 0, .int .i64 0, .int .i64 0, .int .i64 0] 8 (World.laidAll_os _ _ _) (World.shaped_of_ZipB (by kernel_rfl) (by kernel_rfl)) (by kernel_rfl) (by kernel_rfl) (by kernel_rfl)
      (by rw [MakeChecks.laidMetH_plain _ _ _ (by kernel_rfl)]; exact laidMet_laidAll _ (by kernel_rfl) (by kernel_rfl))) ?_
  intro W base args ds gs before hval0 hW hL hsh
  have hval : ∀ (j : Nat) t v, Tryd.f3.params[j]? = some t → args[j]? = some v → Value.okWide Tryd.prog W .any base t v := hval0
  have hW' := hW
  have hlt := hW.lt
  obtain ⟨p, q, hA0, hV, rfl, hfz, hnd⟩ := hW
  have hA : DataW.TrodAll enc Tryd.prog W 0 (fun _ => true) true Tryd.f3.params.toList args.toList ds p := hA0
  have hAll := hA
  rw [Tryd.params3] at hA hval
  obtain ⟨v0, vs0, d0, ds0, p0, q0, hargs, rfl, rfl, h0, r0⟩ := trodAll_cons hA
  obtain ⟨v1, vs1, d1, ds1, p1, q1, rfl, rfl, rfl, h1, r1⟩ := trodAll_cons r0
  obtain ⟨v2, vs2, d2, ds2, p2, q2, rfl, rfl, rfl, h2, r2⟩ := trodAll_cons r1
  obtain ⟨v3, vs3, d3, ds3, p3, q3, rfl, rfl, rfl, h3, r3⟩ := trodAll_cons r2
  obtain ⟨v4, vs4, d4, ds4, p4, q4, rfl, rfl, rfl, h4, r4⟩ := trodAll_cons r3
  obtain ⟨v5, vs5, d5, ds5, p5, q5, rfl, rfl, rfl, h5, r5⟩ := trodAll_cons r4
  obtain ⟨v6, vs6, d6, ds6, p6, q6, rfl, rfl, rfl, h6, r6⟩ := trodAll_cons r5
  obtain ⟨rfl, rfl, rfl⟩ := trodAll_nil r6
  obtain rfl : args = #[v0, v1, v2, v3, v4, v5, v6] := by cases args; simp_all
  obtain ⟨rfl, rfl⟩ := trodVars_none hV
  obtain ⟨hs0, hf0⟩ := fields73 _ Tryd.underlying73
  obtain ⟨n0, g0, w0, l0⟩ := Vcg.structs_read Tryd.underlying22 Tryd.underlying73 cells73 (by decide) hf0 (hval 0 22 v0 rfl rfl) h0
  obtain ⟨a0, rfl, o0⟩ := rws_of (fun x hx => ⟨(w0 x hx).1.trans hs0, (w0 x hx).2⟩)
  obtain ⟨hs1, hf1⟩ := fields73 _ Tryd.underlying73
  obtain ⟨n1, g1, w1, l1⟩ := Vcg.structs_read Tryd.underlying22 Tryd.underlying73 cells73 (by decide) hf1 (hval 1 22 v1 rfl rfl) h1
  obtain ⟨a1, rfl, o1⟩ := rws_of (fun x hx => ⟨(w1 x hx).1.trans hs1, (w1 x hx).2⟩)
  obtain ⟨hs2, hf2⟩ := fields73 _ Tryd.underlying73
  obtain ⟨n2, g2, w2, l2⟩ := Vcg.structs_read Tryd.underlying22 Tryd.underlying73 cells73 (by decide) hf2 (hval 2 22 v2 rfl rfl) h2
  obtain ⟨a2, rfl, o2⟩ := rws_of (fun x hx => ⟨(w2 x hx).1.trans hs2, (w2 x hx).2⟩)
  obtain ⟨a3, rfl, rfl, rfl, w3⟩ := open_int Tryd.underlying3 (hval 3 3 v3 rfl rfl) h3
  obtain ⟨a4, rfl, rfl, rfl, w4⟩ := open_int Tryd.underlying3 (hval 4 3 v4 rfl rfl) h4
  obtain ⟨a5, rfl, rfl, rfl, w5⟩ := open_int Tryd.underlying3 (hval 5 3 v5 rfl rfl) h5
  obtain ⟨a6, rfl, rfl, rfl, w6⟩ := open_int Tryd.underlying3 (hval 6 3 v6 rfl rfl) h6
  have hrd : Vcg.RdL (fun _ => False) W none [rawsD a0, rawsD a1, rawsD a2, .int .i64 a3, .int .i64 a4, .int .i64 a5, .int .i64 a6] [v0, v1, v2, .int .i64 a3, .int .i64 a4, .int .i64 a5, .int .i64 a6] := by
    simp only [Vcg.RdL]
    exact ⟨_, _, rfl, rd_raws g0, _, _, rfl, rd_raws g1, _, _, rfl, rd_raws g2, _, _, rfl, by simp only [Vcg.Rd], _, _, rfl, by simp only [Vcg.Rd], _, _, rfl, by simp only [Vcg.Rd], _, _, rfl, by simp only [Vcg.Rd], rfl⟩
  have hgl := tabs hL
  refine ((fok_ShowHidden).bool rfl hgl hrd ⟨a0, a1, a2, a3, a4, a5, a6, rfl, ⟨o0, by have := l0; simp only [maxLen, List.length_map] at this; omega⟩, ⟨o1, by have := l1; simp only [maxLen, List.length_map] at this; omega⟩, ⟨o2, by have := l2; simp only [maxLen, List.length_map] at this; omega⟩, Vcg.inR_of_wf w3, Vcg.inR_of_wf w4, Vcg.inR_of_wf w5, Vcg.inR_of_wf w6⟩ rfl).mono fun e W' ⟨he, hg⟩ => ?_
  subst he
  exact ⟨_, rfl, _, _, _, [], _, [], hW', trodAll_mk1 (shut_bool Tryd.underlying4 _), Vcg.trodAll_below laidOut hg (by kernel_rfl) hAll (fun x hx => hlt x (List.mem_append_left _ hx)), rfl, hg.frame _, fun h => by cases h⟩

theorem over : Rows.showHiddenRow.holds Tryd.pinned (OpenSpec.ofChange Rows.showHiddenSpec) :=
  OpenClaim.holds_of_wide 3 Tryd.f3 rfl rfl rfl rfl rfl rfl rfl ⟨rfl, rfl, rfl, rfl, rfl⟩ rfl rfl rfl rfl rfl (by kernel_rfl) Tryd.func3 (by kernel_rfl)
    (of_decide_eq_true (by kernel_rfl)) (by unfold Func.isWrapper; first | (rw [if_pos (by decide +kernel)]; kernel_rfl) | (rw [if_neg (by decide +kernel)]; exact ⟨rfl, rfl⟩))
    (fun os started H enc _ => lifted os started H enc)

/-- THE STATEMENT -/
theorem proved : Rows.ShowHiddenCardSaid :=
  Claim7.holds_tied_plain_at .later [] [.data, .data, .data] true (true, "ce32173378ce25672401ae4cab14926e5a24dda5d5f4e20d79c4f7bba99505b9") false
    over (fun _ h => by cases h) (by kernel_rfl) (fun _ h => by cases h) showHidden_row_tie rfl ⟨rfl, rfl⟩ (by kernel_rfl) rfl
    (fun f fn hf hfn => by
      obtain rfl : f = 3 := Option.some.inj ((show Tryd.prog.funcNamed "reredos/reredoskeep.ShowHidden" = some 3 by kernel_rfl).symm.trans hf) |>.symm
      obtain rfl : fn = Tryd.f3 := (Option.some.inj (Tryd.func3.symm.trans hfn)).symm
      exact ⟨by kernel_rfl, fun j t ht => by
        rw [Tryd.params3] at ht
        have hm : t ∈ [22, 22, 22, 3, 3, 3, 3] := by simpa using Array.mem_of_getElem? ht
        have hall : ([22, 22, 22, 3, 3, 3, 3].all fun u => !Tryd.prog.wantsStandIn u) = true := by kernel_rfl
        exact (show Tryd.prog.wantsStandIn t = false by simpa using List.all_eq_true.1 hall t hm)⟩)
    (by kernel_rfl)
end Go.Proofs.YtghehknnaifoeaaDoor.showHidden
