/-
  Rows.HearDecideCardSaid: the Go function reredoskeep.HearDecide returns true on all its inputs and leaves what was there as it was. Conditions: that the table of kinds reads as the program text lays it (tied by the card).
-/
import Derived.Test.YtilahimnineigaaDoorRows
import Derived.Test.YtilahimnineigaaDoorCards
import Derived.Test.YtilahimnineigaaDoorTie
import Derived.SevenTiedAt
import Derived.LaidMore
import Derived.Stop.Joined
import Derived.Test.YtilahimnineigaaDoorHlXHearDecide
import Derived.WalkKit
import Derived.ProofKit
namespace Go.Proofs.YtilahimnineigaaDoor.hearDecide
open Go.ChangeShapes Go.WideShapes Go.ChangeAt Go.RowKit
set_option linter.unusedVariables false

theorem own : ownKnob Tryd.prog.godebug = none := by kernel_rfl
theorem laidOut : laidOutB Tryd.prog = true := by kernel_rfl
theorem cells24 : Tryd.prog.cellsOf 24 = 6 := by kernel_rfl
theorem cellsF24 : Tryd.prog.cellsOf 3 = 1 := by kernel_rfl
theorem fields24 (fs : Array Field) (h : Tryd.prog.underlying 24 = some (.struct fs)) : fs.size = 6 ∧ ∀ i, i < fs.size → ∃ f, fs[i]? = some f ∧ f.offset = i ∧ Tryd.prog.underlying f.type = some (.int .i64) ∧ Tryd.prog.cellsOf f.type = 1 := by
  have hu := Tryd.underlying24
  rw [h] at hu
  injection hu with hu
  injection hu with hu
  subst hu
  refine ⟨rfl, fun i hi => ?_⟩
  have hi' : i < 6 := hi
  have : i = 0 ∨ i = 1 ∨ i = 2 ∨ i = 3 ∨ i = 4 ∨ i = 5 := by omega
  rcases this with rfl | rfl | rfl | rfl | rfl | rfl <;> exact ⟨_, rfl, rfl, Tryd.underlying3, cellsF24⟩

def laid : List (String × DataW Unit) := [("reredos/wire.messages", Rows.laid_reredos_wire_messages)]
theorem gT : Tryd.prog.globalNamed "reredos/wire.messages" = some 0 := by kernel_rfl
theorem door_met (os : Os) (args : Array Value) : laidMetH Tryd.prog laid ((World.doorLaid Tryd.prog 36 os).forCall (fun _ _ => 0) ⟨#[], args, []⟩).memory :=
  laidMetH_of_parts3 (fuel := 8) (laidMet_of_run' 8 (by kernel_rfl) (by kernel_rfl)) (by kernel_rfl) (by kernel_rfl)
theorem tT : (Tryd.prog.globals[0]?).map (·.type) = some 98 := by kernel_rfl
theorem fieldsT (fs : Array Field) (h : Tryd.prog.underlying 97 = some (.struct fs)) : fs.size = 8 ∧ ∀ i, i < fs.size → ∃ f, fs[i]? = some f ∧ f.offset = i ∧ Tryd.prog.underlying f.type = some .bool ∧ Tryd.prog.cellsOf f.type = 1 := by
  have hu := Tryd.underlying97
  rw [h] at hu
  injection hu with hu
  injection hu with hu
  subst hu
  refine ⟨rfl, fun i hi => ?_⟩
  have hi' : i < 8 := hi
  have : i = 0 ∨ i = 1 ∨ i = 2 ∨ i = 3 ∨ i = 4 ∨ i = 5 ∨ i = 6 ∨ i = 7 := by omega
  rcases this with rfl | rfl | rfl | rfl | rfl | rfl | rfl | rfl <;> exact ⟨_, rfl, rfl, Tryd.underlying4, by kernel_rfl⟩
/-- What the condition says of the table's memory. -/
theorem table {W : World} (h : laidMetH Tryd.prog laid W) : Vcg.Rd (fun _ => False) W none (.ad 8 msgT 0 0) (.pointer (some ⟨0, 0, none⟩)) := by
  rw [MakeChecks.laidMetH_plain _ _ _ (by kernel_rfl)] at h
  obtain ⟨ps, ⟨g0, t0, cs0, f0, p0, q0, hg0, ht0, hv0, hd0, _, _⟩, _, _⟩ := h
  obtain rfl := Option.some.inj (gT.symm.trans hg0)
  obtain rfl := Option.some.inj (tT.symm.trans ht0)
  obtain ⟨hs, hf⟩ := fieldsT _ Tryd.underlying97
  have hE := Vcg.bools_table Tryd.underlying98 Tryd.underlying97 (by kernel_rfl) (by kernel_rfl) hf hd0 (tb := [parts 0, parts 1, parts 2, parts 3, parts 4, parts 5, parts 6, parts 7, parts 8, parts 9]) rfl (X := fun _ => False)
  have hE' : Vcg.RdE (fun _ => False) W 8 msgT cs0.toList := hE
  exact Vcg.table_at gT hv0 hE' id (by decide) (by decide)

set_option maxRecDepth 100000 in
theorem lifted (os : Os) (started : os.Started) (H : Type) (enc : TypeId × Value → H) :
    ReturnsInHanded {} Tryd.checked os 7 .any (fun w args => (Rows.hearDecideSpec.pre enc Tryd.prog Tryd.f7 [] false w args ∧ laidMetH Tryd.prog laid w) ∧ sizedMet enc Tryd.prog Tryd.f7 (OpenSpec.ofChange Rows.hearDecideSpec) false w args)
      (Rows.hearDecideSpec.post enc Tryd.prog Tryd.f7 false true false false) := by
  refine returnsInHanded_of_change_and (C := Tryd.checked) (X := fun w _ => laidMetH Tryd.prog laid w) (fun _ _ _ hh h => h.of_heap hh) own started (by kernel_rfl) Tryd.func7
    (ChangeSpec.witness_shaped (enc := enc) (C := Tryd.checked) (os := os) (X := fun w _ => laidMetH Tryd.prog laid w) false (World.doorLaid Tryd.prog 36 os) #[.slice none 0 0, .agg #[.int .i64 0, .int .i64 0, .int .i64 0, .int .i64 0, .int .i64 0, .int .i64 0], .bool false] 8 rfl (World.shaped_of_RefB (by kernel_rfl) (by kernel_rfl)) (by kernel_rfl) (by kernel_rfl) (by kernel_rfl) (door_met os _)) ?_
  intro W base args ds gs before hval0 hW hcnd hwt hL _
  have hval : ∀ (j : Nat) t v, Tryd.f7.params[j]? = some t → args[j]? = some v → Value.okWide Tryd.prog W .any base t v := hval0
  have hW' := hW
  have hlt := hW.lt
  obtain ⟨p, q, hA0, hV, rfl, hfz, hnd⟩ := hW
  have hA : DataW.TrodAll enc Tryd.prog W 0 (fun _ => true) true Tryd.f7.params.toList args.toList ds p := hA0
  have hAll := hA
  rw [Tryd.params7] at hA hval
  obtain ⟨v0, vs0, d0, ds0, p0, q0, hargs, rfl, rfl, h0, r0⟩ := trodAll_cons hA
  obtain ⟨v1, vs1, d1, ds1, p1, q1, rfl, rfl, rfl, h1, r1⟩ := trodAll_cons r0
  obtain ⟨v2, vs2, d2, ds2, p2, q2, rfl, rfl, rfl, h2, r2⟩ := trodAll_cons r1
  obtain ⟨rfl, rfl, rfl⟩ := trodAll_nil r2
  obtain rfl : args = #[v0, v1, v2] := by cases args; simp_all
  obtain ⟨rfl, rfl⟩ := trodVars_none hV
  obtain ⟨hs0, hf0⟩ := fields24 _ Tryd.underlying24
  obtain ⟨n0, g0, w0, l0⟩ := Vcg.structs_read Tryd.underlying22 Tryd.underlying24 cells24 (by decide) hf0 (hval 0 22 v0 rfl rfl) h0
  obtain ⟨a0, rfl, o0⟩ := rws_of (fun x hx => ⟨(w0 x hx).1.trans hs0, (w0 x hx).2⟩)
  obtain ⟨hs1, hf1⟩ := fields24 _ Tryd.underlying24
  obtain ⟨n1, rfl, e1, w1⟩ := Vcg.struct_read Tryd.underlying24 cells24 hf1 (hval 1 24 v1 rfl rfl) h1
  obtain ⟨a1, rfl, o1⟩ := rw_of (e1.trans hs1) w1
  obtain ⟨a2, rfl, rfl, rfl⟩ := Go.RowKit.open_bool Tryd.underlying4 (hval 2 4 v2 rfl rfl) h2
  have hrd : Vcg.RdL (fun _ => False) W none [rawsD a0, rawD a1, .bool a2] [v0, .agg ((rwL a1).map (.int .i64)).toArray, .bool a2] := by
    simp only [Vcg.RdL]
    exact ⟨_, _, rfl, rd_raws g0, _, _, rfl, rd_raw a1, _, _, rfl, by simp only [Vcg.Rd], rfl⟩
  have hgl : ∀ i, Vcg.Rd (fun _ => False) W none (glM i) (.pointer (some ⟨i, 0, none⟩)) := fun i => by
    unfold glM
    split
    · rename_i hi; subst hi; exact table hL
    · simp only [Vcg.Rd]
  refine (fok_HearDecide.bool rfl hgl hrd ⟨a0, a1, a2, rfl, ⟨o0, by have := l0; simp only [maxLen, List.length_map] at this; omega⟩, o1⟩ rfl).mono fun e W' ⟨he, hg⟩ => ?_
  subst he
  exact ⟨_, rfl, _, _, _, [], _, [], hW', trodAll_mk1 (shut_bool Tryd.underlying4 _), Vcg.trodAll_below laidOut hg (by kernel_rfl) hAll (fun x hx => hlt x (List.mem_append_left _ hx)), rfl, hg.frame _, fun h => by cases h⟩

theorem over : Rows.hearDecideRow.holds Tryd.pinned (OpenSpec.ofChange Rows.hearDecideSpec) :=
  OpenClaim.holds_of_wide 7 Tryd.f7 rfl rfl rfl rfl rfl rfl rfl ⟨rfl, rfl, rfl, rfl, rfl⟩ rfl rfl rfl rfl rfl (by kernel_rfl) Tryd.func7 (by kernel_rfl)
    (of_decide_eq_true (by kernel_rfl)) (by unfold Func.isWrapper; first | (rw [if_pos (by decide +kernel)]; kernel_rfl) | (rw [if_neg (by decide +kernel)]; exact ⟨rfl, rfl⟩))
    (fun os started H enc _ => lifted os started H enc)

/-- THE STATEMENT -/
theorem proved : Rows.HearDecideCardSaid :=
  Claim7.holds_tied_plain_at .later [] [.data] true (true, "184be8c5eaed085cd106d88a3f5e803fd35c691a06b15d7fddd2c750ac876beb") false
    over (fun _ h => by cases h) (by kernel_rfl) (fun _ h => by cases h) hearDecide_row_tie rfl ⟨rfl, rfl⟩ (by kernel_rfl) rfl
    (fun f fn hf hfn => by
      obtain rfl : f = 7 := Option.some.inj ((show Tryd.prog.funcNamed "reredos/reredoskeep.HearDecide" = some 7 by kernel_rfl).symm.trans hf) |>.symm
      obtain rfl : fn = Tryd.f7 := (Option.some.inj (Tryd.func7.symm.trans hfn)).symm
      exact ⟨by kernel_rfl, fun j t ht => by
        rw [Tryd.params7] at ht
        have hm : t ∈ [22, 24, 4] := by simpa using Array.mem_of_getElem? ht
        have hall : ([22, 24, 4].all fun u => !Tryd.prog.wantsStandIn u) = true := by kernel_rfl
        exact (show Tryd.prog.wantsStandIn t = false by simpa using List.all_eq_true.1 hall t hm)⟩)
    (by kernel_rfl)
end Go.Proofs.YtilahimnineigaaDoor.hearDecide
