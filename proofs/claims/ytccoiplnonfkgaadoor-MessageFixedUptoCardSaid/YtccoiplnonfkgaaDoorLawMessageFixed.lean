/-
  Rows.MessageFixedUptoCardSaid: the Go function reredoskeep.MessageFixed (where what it reads is of bulk at most 1048576) returns true on all its inputs and leaves what was there as it was. Conditions: that the table of kinds reads as the program text lays it (tied by the card).
-/
import Derived.Test.YtccoiplnonfkgaaDoorRows
import Derived.Test.YtccoiplnonfkgaaDoorBulk
import Derived.Deep.DeepWitnessRowRef
import Derived.Test.YtccoiplnonfkgaaDoorCards
import Derived.Test.YtccoiplnonfkgaaDoorTie
import Derived.SevenTiedAt
import Derived.LaidMore
import Derived.Stop.Joined
import Derived.Test.YtccoiplnonfkgaaDoorWrTabF
import Derived.WalkKit
import Derived.ProofKit
namespace Go.Proofs.YtccoiplnonfkgaaDoor.messageFixed
open Go.ChangeShapes Go.WideShapes Go.ChangeAt Go.RowKit
set_option linter.unusedVariables false

theorem own : ownKnob Tryd.prog.godebug = none := by kernel_rfl
theorem laidOut : laidOutB Tryd.prog = true := by kernel_rfl
theorem cells3 : Tryd.prog.cellsOf 3 = 1 := by kernel_rfl
theorem cells5 : Tryd.prog.cellsOf 5 = 1 := by kernel_rfl

def laid : List (String × DataW Unit) := [("reredos/wire.messages", Rows.laid_reredos_wire_messages)]
theorem gT : Tryd.prog.globalNamed "reredos/wire.messages" = some 0 := by kernel_rfl
theorem door_met (os : Os) (args : Array Value) : laidMetH Tryd.prog laid ((World.doorLaid Tryd.prog 36 os).forCall (fun _ _ => 0) ⟨#[], args, []⟩).memory :=
  laidMetH_of_parts3 (fuel := 8) (laidMet_of_run' 8 (by kernel_rfl) (by kernel_rfl)) (by kernel_rfl) (by kernel_rfl)
theorem tT : (Tryd.prog.globals[0]?).map (·.type) = some 94 := by kernel_rfl
theorem fieldsT (fs : Array Field) (h : Tryd.prog.underlying 93 = some (.struct fs)) : fs.size = 8 ∧ ∀ i, i < fs.size → ∃ f, fs[i]? = some f ∧ f.offset = i ∧ Tryd.prog.underlying f.type = some .bool ∧ Tryd.prog.cellsOf f.type = 1 := by
  have hu := Tryd.underlying93
  rw [h] at hu
  injection hu with hu
  injection hu with hu
  subst hu
  refine ⟨rfl, fun i hi => ?_⟩
  have hi' : i < 8 := hi
  have : i = 0 ∨ i = 1 ∨ i = 2 ∨ i = 3 ∨ i = 4 ∨ i = 5 ∨ i = 6 ∨ i = 7 := by omega
  rcases this with rfl | rfl | rfl | rfl | rfl | rfl | rfl | rfl <;> exact ⟨_, rfl, rfl, Tryd.underlying4, by kernel_rfl⟩
/-- What the condition says of the table's memory. -/
theorem table {W : World} (h : laidMetH Tryd.prog laid W) : Vcg.Rd (fun _ => False) W none (.ad 8 msgT 0 0) (.pointer (some ⟨0, 0, none⟩)) := by
  rw [MakeChecks.laidMetH_plain _ _ _ (by kernel_rfl)] at h
  obtain ⟨ps, ⟨g0, t0, cs0, f0, p0, q0, hg0, ht0, hv0, hd0, _, _⟩, _, _⟩ := h
  obtain rfl := Option.some.inj (gT.symm.trans hg0)
  obtain rfl := Option.some.inj (tT.symm.trans ht0)
  obtain ⟨hs, hf⟩ := fieldsT _ Tryd.underlying93
  have hE := Vcg.bools_table Tryd.underlying94 Tryd.underlying93 (by kernel_rfl) (by kernel_rfl) hf hd0 (tb := [parts 0, parts 1, parts 2, parts 3, parts 4, parts 5, parts 6, parts 7, parts 8, parts 9]) rfl (X := fun _ => False)
  have hE' : Vcg.RdE (fun _ => False) W 8 msgT cs0.toList := hE
  exact Vcg.table_at gT hv0 hE' id (by decide) (by decide)

set_option maxRecDepth 100000 in
theorem contract (H : Type) (enc : TypeId × Value → H) (W : World) (base : Nat) (args : Array Value) (ds gs : List (DataW H)) (before : List MemPlace)
    (hval0 : ∀ (j : Nat) t v, Tryd.f12.params[j]? = some t → args[j]? = some v → Value.okWide Tryd.prog W .any base t v)
    (hW : DataW.Whole enc Tryd.prog Tryd.f12.params.toList Rows.messageFixedSpec.vars false W args.toList ds gs before) (hk : Rows.uptoSmall H (ds ++ gs) = true) (hL : laidMetH Tryd.prog laid W) :
    Calls Tryd.prog 12 args W fun e W' => ∃ v, e = .returned v ∧ Rows.messageFixedSpec.post enc Tryd.prog Tryd.f12 false true false false W args v W' := by
  have hval : ∀ (j : Nat) t v, Tryd.f12.params[j]? = some t → args[j]? = some v → Value.okWide Tryd.prog W .any base t v := hval0
  have hW' := hW
  have hlt := hW.lt
  obtain ⟨p, q, hA0, hV, rfl, hfz, hnd⟩ := hW
  have hA : DataW.TrodAll enc Tryd.prog W 0 (fun _ => true) true Tryd.f12.params.toList args.toList ds p := hA0
  have hAll := hA
  rw [Tryd.params12] at hA hval
  obtain ⟨v0, vs0, d0, ds0, p0, q0, hargs, rfl, rfl, h0, r0⟩ := trodAll_cons hA
  obtain ⟨v1, vs1, d1, ds1, p1, q1, rfl, rfl, rfl, h1, r1⟩ := trodAll_cons r0
  obtain ⟨v2, vs2, d2, ds2, p2, q2, rfl, rfl, rfl, h2, r2⟩ := trodAll_cons r1
  obtain ⟨rfl, rfl, rfl⟩ := trodAll_nil r2
  obtain rfl : args = #[v0, v1, v2] := by cases args; simp_all
  obtain ⟨rfl, rfl⟩ := trodVars_none hV
  obtain ⟨a0, rfl, rfl, rfl, w0⟩ := open_int Tryd.underlying3 (hval 0 3 v0 rfl rfl) h0
  obtain ⟨a1, g1, w1, l1⟩ := Vcg.ints_read Tryd.underlying22 Tryd.underlying3 cells3 (hval 1 22 v1 rfl rfl) h1
  obtain ⟨a2, g2, w2, l2⟩ := bytes_read Tryd.underlying54 Tryd.underlying5 cells5 (hval 2 54 v2 rfl rfl) h2
  have hbd := of_decide_eq_true hk
  simp only [List.append_nil, Rows.uptoBulkAll] at hbd
  have hrd : Vcg.RdL (fun _ => False) W none [.int .i64 a0, intsD a1, bytesD a2] [.int .i64 a0, v1, v2] := by
    simp only [Vcg.RdL]
    exact ⟨_, _, rfl, by simp only [Vcg.Rd], _, _, rfl, g1, _, _, rfl, g2, rfl⟩
  have hgl : ∀ i, Vcg.Rd (fun _ => False) W none (glM i) (.pointer (some ⟨i, 0, none⟩)) := fun i => by
    unfold glM
    split
    · rename_i hi; subst hi; exact table hL
    · simp only [Vcg.Rd]
  refine (fok_MessageFixed.bool rfl hgl hrd ⟨a0, a1, a2, rfl, Vcg.inR_of_wf w0, ⟨w1, by have := l1; simp only [maxLen] at this; omega⟩, w2, by omega⟩ rfl).mono fun e W' ⟨he, hg⟩ => ?_
  subst he
  exact ⟨_, rfl, _, _, _, [], _, [], hW', trodAll_mk1 (shut_bool Tryd.underlying4 _), Vcg.trodAll_below laidOut hg (by kernel_rfl) hAll (fun x hx => hlt x (List.mem_append_left _ hx)), rfl, hg.frame _, fun h => by cases h⟩

theorem reads (os : Os) {H : Type} (enc : TypeId × Value → H) : ∃ places, DataW.whole enc Tryd.prog ((World.doorLaid Tryd.prog 36 os).forCall (fun _ _ => 0) ⟨#[], #[.int .i64 0, .slice none 0 0, .slice none 0 0], []⟩).memory Tryd.f12.params.toList Rows.messageFixedSpec.vars false (#[.int .i64 0, .slice none 0 0, .slice none 0 0] : Array Value).toList 8 = some ([.lit (.int .i64 0), .nil, .nil], [], places) :=
  ⟨[], by kernel_rfl⟩

set_option maxRecDepth 100000 in
theorem lifted (os : Os) (started : os.Started) (H : Type) (enc : TypeId × Value → H) (F : Stop.Interp) :
    ReturnsInHanded {} Tryd.checked os 12 .any ((Rows.OpenSpec.upto Rows.messageFixedSpec).preRow enc Tryd.prog Tryd.f12 Rows.messageFixedUptoRow.domain false Rows.messageFixedUptoRow.laid) (((Rows.OpenSpec.upto Rows.messageFixedSpec).at F).post enc Tryd.prog Tryd.f12 false true false false) := by
  obtain ⟨places, hx⟩ := reads os enc
  refine returnsInHanded_of_row (C := Tryd.checked) (s := Rows.OpenSpec.upto Rows.messageFixedSpec) own started (by kernel_rfl) Tryd.func12
    (witness_row_atRef (enc := enc) (C := Tryd.checked) false (World.doorLaid Tryd.prog 36 os) #[.int .i64 0, .slice none 0 0, .slice none 0 0] rfl (by kernel_rfl) (by kernel_rfl) (by kernel_rfl)
      (OpenSpec.preRow_of_cond 8 hx (by kernel_rfl) (fun k hk => by cases hk; kernel_rfl) (by kernel_rfl) (door_met os _))) ?_
  intro W base args ds gs before hval hW _ hcond _ hL _ _
  exact contract H enc W base args ds gs before hval hW (hcond _ rfl) hL

theorem over : Rows.messageFixedUptoRow.holds Tryd.pinned (Rows.OpenSpec.upto Rows.messageFixedSpec) :=
  OpenClaim.holds_of_cond 12 Tryd.f12 rfl rfl rfl rfl rfl rfl rfl ⟨rfl, rfl, rfl, rfl, rfl⟩ rfl rfl rfl rfl rfl (by kernel_rfl) Tryd.func12 (by kernel_rfl)
    (of_decide_eq_true (by kernel_rfl)) (by unfold Func.isWrapper; first | (rw [if_pos (by decide +kernel)]; kernel_rfl) | (rw [if_neg (by decide +kernel)]; exact ⟨rfl, rfl⟩))
    (fun os started H enc _ F => by rw [OpenClaim.pre_eq_preRow]; exact lifted os started H enc F)

/-- THE STATEMENT -/
theorem proved : Rows.MessageFixedUptoCardSaid :=
  Claim7.holds_tied_plain_at .later [] [.data] true (true, "a805f523c60007ec52357a2db1a91a01f3091497e74901e0515c281c1621d91d") false
    over (fun _ h => by cases h) (by kernel_rfl) (fun _ h => by cases h) messageFixedUpto_row_tie rfl ⟨rfl, rfl⟩ (by kernel_rfl) rfl
    (fun f fn hf hfn => by
      obtain rfl : f = 12 := Option.some.inj ((show Tryd.prog.funcNamed "reredos/reredoskeep.MessageFixed" = some 12 by kernel_rfl).symm.trans hf) |>.symm
      obtain rfl : fn = Tryd.f12 := (Option.some.inj (Tryd.func12.symm.trans hfn)).symm
      exact ⟨by kernel_rfl, fun j t ht => by
        rw [Tryd.params12] at ht
        have hm : t ∈ [3, 22, 54] := by simpa using Array.mem_of_getElem? ht
        have hall : ([3, 22, 54].all fun u => !Tryd.prog.wantsStandIn u) = true := by kernel_rfl
        exact (show Tryd.prog.wantsStandIn t = false by simpa using List.all_eq_true.1 hall t hm)⟩)
    (by kernel_rfl)
end Go.Proofs.YtccoiplnonfkgaaDoor.messageFixed
