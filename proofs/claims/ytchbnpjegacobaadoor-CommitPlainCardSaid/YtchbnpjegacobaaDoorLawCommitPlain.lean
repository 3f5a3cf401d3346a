/-
  Rows.CommitPlainCardSaid: the Go function reredoskeep.CommitPlain returns true on all its inputs and leaves what was there as it was. Conditions: that the table of kinds reads as the program text lays it (tied by the card).
-/
import Derived.Test.YtchbnpjegacobaaDoorRows
import Derived.Test.YtchbnpjegacobaaDoorCards
import Derived.Test.YtchbnpjegacobaaDoorTie
import Derived.SevenTiedAt
import Derived.LaidMore
import Derived.Stop.Joined
import Derived.Test.YtchbnpjegacobaaDoorDkXCommitPlain
import Derived.WalkKit
import Derived.ProofKit
namespace Go.Proofs.YtchbnpjegacobaaDoor.commitPlain
open Go.ChangeShapes Go.WideShapes Go.ChangeAt Go.RowKit
set_option linter.unusedVariables false

theorem own : ownKnob Tryd.prog.godebug = none := by kernel_rfl
theorem laidOut : laidOutB Tryd.prog = true := by kernel_rfl
theorem cells3 : Tryd.prog.cellsOf 3 = 1 := by kernel_rfl

def laid : List (String × DataW Unit) := [("reredos/wire.messages", Rows.laid_reredos_wire_messages)]
theorem gT : Tryd.prog.globalNamed "reredos/wire.messages" = some 0 := by kernel_rfl
theorem door_met (os : Os) (args : Array Value) : laidMetH Tryd.prog laid ((World.doorLaid Tryd.prog 36 os).forCall (fun _ _ => 0) ⟨#[], args, []⟩).memory :=
  laidMetH_of_parts3 (fuel := 8) (laidMet_of_run' 8 (by kernel_rfl) (by kernel_rfl)) (by kernel_rfl) (by kernel_rfl)
theorem tT : (Tryd.prog.globals[0]?).map (·.type) = some 111 := by kernel_rfl
theorem fieldsT (fs : Array Field) (h : Tryd.prog.underlying 110 = some (.struct fs)) : fs.size = 8 ∧ ∀ i, i < fs.size → ∃ f, fs[i]? = some f ∧ f.offset = i ∧ Tryd.prog.underlying f.type = some .bool ∧ Tryd.prog.cellsOf f.type = 1 := by
  have hu := Tryd.underlying110
  rw [h] at hu
  injection hu with hu
  injection hu with hu
  subst hu
  refine ⟨rfl, fun i hi => ?_⟩
  have hi' : i < 8 := hi
  have : i = 0 ∨ i = 1 ∨ i = 2 ∨ i = 3 ∨ i = 4 ∨ i = 5 ∨ i = 6 ∨ i = 7 := by omega
  rcases this with rfl | rfl | rfl | rfl | rfl | rfl | rfl | rfl <;> exact ⟨_, rfl, rfl, Tryd.underlying4, by kernel_rfl⟩
/-- What the condition says of the table's memory. -/
theorem table {W : World} (h : laidMetH Tryd.prog laid W) : Vcg.Rd (fun _ => False) W none (.ad 8 msgT 0 0) (.pointer (some ⟨0, 0, none⟩)) := by
  rw [MakeChecks.laidMetH_plain _ _ _ (by kernel_rfl)] at h
  obtain ⟨ps, ⟨g0, t0, cs0, f0, p0, q0, hg0, ht0, hv0, hd0, _, _⟩, _, _⟩ := h
  obtain rfl := Option.some.inj (gT.symm.trans hg0)
  obtain rfl := Option.some.inj (tT.symm.trans ht0)
  obtain ⟨hs, hf⟩ := fieldsT _ Tryd.underlying110
  have hE := Vcg.bools_table Tryd.underlying111 Tryd.underlying110 (by kernel_rfl) (by kernel_rfl) hf hd0 (tb := [parts 0, parts 1, parts 2, parts 3, parts 4, parts 5, parts 6, parts 7, parts 8, parts 9]) rfl (X := fun _ => False)
  have hE' : Vcg.RdE (fun _ => False) W 8 msgT cs0.toList := hE
  exact Vcg.table_at gT hv0 hE' id (by decide) (by decide)

set_option maxRecDepth 100000 in
theorem lifted (os : Os) (started : os.Started) (H : Type) (enc : TypeId × Value → H) :
    ReturnsInHanded {} Tryd.checked os 7 .any (fun w args => (Rows.commitPlainSpec.pre enc Tryd.prog Tryd.f7 [] false w args ∧ laidMetH Tryd.prog laid w) ∧ sizedMet enc Tryd.prog Tryd.f7 (OpenSpec.ofChange Rows.commitPlainSpec) false w args)
      (Rows.commitPlainSpec.post enc Tryd.prog Tryd.f7 false true false false) := by
  refine returnsInHanded_of_change_and (C := Tryd.checked) (X := fun w _ => laidMetH Tryd.prog laid w) (fun _ _ _ hh h => h.of_heap hh) own started (by kernel_rfl) Tryd.func7
    (ChangeSpec.witness_shaped (enc := enc) (C := Tryd.checked) (os := os) (X := fun w _ => laidMetH Tryd.prog laid w) false (World.doorLaid Tryd.prog 36 os) #[.int .i64 0, .slice none 0 0] 8 rfl (World.shaped_of_RefB (by kernel_rfl) (by kernel_rfl)) (by kernel_rfl) (by kernel_rfl) (by kernel_rfl) (door_met os _)) ?_
  intro W base args ds gs before hval0 hW hcnd hwt hL _
  have hval : ∀ (j : Nat) t v, Tryd.f7.params[j]? = some t → args[j]? = some v → Value.okWide Tryd.prog W .any base t v := hval0
  have hW' := hW
  have hlt := hW.lt
  obtain ⟨p, q, hA0, hV, rfl, hfz, hnd⟩ := hW
  have hA : DataW.TrodAll enc Tryd.prog W 0 (fun _ => true) true Tryd.f7.params.toList args.toList ds p := hA0
  have hAll := hA
  rw [Tryd.params7] at hA hval
  obtain ⟨v0, vs0, d0, ds0, p0, q0, hargs, rfl, rfl, h0, r0⟩ := trodAll_cons hA
  obtain ⟨v1, vs1, d1, ds1, p1, q1, rfl, rfl, rfl, h1, r1⟩ := trodAll_cons r0
  obtain ⟨rfl, rfl, rfl⟩ := trodAll_nil r1
  obtain rfl : args = #[v0, v1] := by cases args; simp_all
  obtain ⟨rfl, rfl⟩ := trodVars_none hV
  obtain ⟨a0, rfl, rfl, rfl, w0⟩ := open_int Tryd.underlying3 (hval 0 3 v0 rfl rfl) h0
  obtain ⟨a1, g1, w1, l1⟩ := Vcg.ints_read Tryd.underlying49 Tryd.underlying3 cells3 (hval 1 49 v1 rfl rfl) h1
  have hrd : Vcg.RdL (fun _ => False) W none [.int .i64 a0, intsD a1] [.int .i64 a0, v1] := by
    simp only [Vcg.RdL]
    exact ⟨_, _, rfl, by simp only [Vcg.Rd], _, _, rfl, g1, rfl⟩
  have hgl : ∀ i, Vcg.Rd (fun _ => False) W none (glM i) (.pointer (some ⟨i, 0, none⟩)) := fun i => by
    unfold glM
    split
    · rename_i hi; subst hi; exact table hL
    · simp only [Vcg.Rd]
  refine (fok_CommitPlain.bool rfl hgl hrd ⟨a0, a1, rfl, Vcg.inR_of_wf w0, ⟨w1, by have := l1; simp only [maxLen] at this; omega⟩⟩ rfl).mono fun e W' ⟨he, hg⟩ => ?_
  subst he
  exact ⟨_, rfl, _, _, _, [], _, [], hW', trodAll_mk1 (shut_bool Tryd.underlying4 _), Vcg.trodAll_below laidOut hg (by kernel_rfl) hAll (fun x hx => hlt x (List.mem_append_left _ hx)), rfl, hg.frame _, fun h => by cases h⟩

theorem over : Rows.commitPlainRow.holds Tryd.pinned (OpenSpec.ofChange Rows.commitPlainSpec) :=
  OpenClaim.holds_of_wide 7 Tryd.f7 rfl rfl rfl rfl rfl rfl rfl ⟨rfl, rfl, rfl, rfl, rfl⟩ rfl rfl rfl rfl rfl (by kernel_rfl) Tryd.func7 (by kernel_rfl)
    (of_decide_eq_true (by kernel_rfl)) (by unfold Func.isWrapper; first | (rw [if_pos (by decide +kernel)]; kernel_rfl) | (rw [if_neg (by decide +kernel)]; exact ⟨rfl, rfl⟩))
    (fun os started H enc _ => lifted os started H enc)

/-- THE STATEMENT -/
theorem proved : Rows.CommitPlainCardSaid :=
  Claim7.holds_tied_plain_at .later [] [.data] true (true, "f8ccbd6effdd76507c7f7981a4eae1d7f6e92348705af5de14f2aa899e326293") false
    over (fun _ h => by cases h) (by kernel_rfl) (fun _ h => by cases h) commitPlain_row_tie rfl ⟨rfl, rfl⟩ (by kernel_rfl) rfl
    (fun f fn hf hfn => by
      obtain rfl : f = 7 := Option.some.inj ((show Tryd.prog.funcNamed "reredos/reredoskeep.CommitPlain" = some 7 by kernel_rfl).symm.trans hf) |>.symm
      obtain rfl : fn = Tryd.f7 := (Option.some.inj (Tryd.func7.symm.trans hfn)).symm
      exact ⟨by kernel_rfl, fun j t ht => by
        rw [Tryd.params7] at ht
        have hm : t ∈ [3, 49] := by simpa using Array.mem_of_getElem? ht
        have hall : ([3, 49].all fun u => !Tryd.prog.wantsStandIn u) = true := by kernel_rfl
        exact (show Tryd.prog.wantsStandIn t = false by simpa using List.all_eq_true.1 hall t hm)⟩)
    (by kernel_rfl)
end Go.Proofs.YtchbnpjegacobaaDoor.commitPlain
