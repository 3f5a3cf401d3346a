/-
  Rows.ForgetReadsSaid: the Go function reredoskeep.ForgetReads returns true on all its inputs and leaves what was there as it was. Conditions: none.
-/
import Derived.Test.YtjilpdgpdpibkaaRows
import Derived.Test.YtjilpdgpdpibkaaStWt
import Derived.WalkKit
import Derived.ProofKit
namespace Go.Proofs.Ytjilpdgpdpibkaa.forgetReads
open Go.ChangeShapes Go.WideShapes Go.ChangeAt Go.RowKit
set_option linter.unusedVariables false

theorem own : ownKnob Try.prog.godebug = none := by kernel_rfl
theorem laidOut : laidOutB Try.prog = true := by kernel_rfl
theorem cells58 : Try.prog.cellsOf 58 = 6 := by kernel_rfl
theorem cellsF58 : Try.prog.cellsOf 3 = 1 := by kernel_rfl
theorem fields58 (fs : Array Field) (h : Try.prog.underlying 58 = some (.struct fs)) : fs.size = 6 ∧ ∀ i, i < fs.size → ∃ f, fs[i]? = some f ∧ f.offset = i ∧ Try.prog.underlying f.type = some (.int .i64) ∧ Try.prog.cellsOf f.type = 1 := by
  have hu := Try.underlying58
  rw [h] at hu
  injection hu with hu
  injection hu with hu
  subst hu
  refine ⟨rfl, fun i hi => ?_⟩
  have hi' : i < 6 := hi
  have : i = 0 ∨ i = 1 ∨ i = 2 ∨ i = 3 ∨ i = 4 ∨ i = 5 := by omega
  rcases this with rfl | rfl | rfl | rfl | rfl | rfl <;> exact ⟨_, rfl, rfl, Try.underlying3, cellsF58⟩

set_option maxRecDepth 100000 in
theorem lifted (os : Os) (started : os.Started) (H : Type) (enc : TypeId × Value → H) :
    ReturnsInHanded {} Try.checked os 10 .any (Rows.forgetReadsSpec.pre6 enc Try.prog Try.f10 Rows.forgetReadsRow.domain false) (Rows.forgetReadsSpec.post enc Try.prog Try.f10 false true false false) := by
  refine returnsInHanded_of_change (C := Try.checked) own started (by kernel_rfl) Try.func10
    (ChangeSpec.witness6 (enc := enc) (C := Try.checked) false ⟨#[], #[.slice none 0 0], []⟩ 8 (by kernel_rfl) (by kernel_rfl) (by kernel_rfl) (by kernel_rfl)) ?_
  intro W base args ds gs before hval0 hW hcnd hwt
  have hval : ∀ (j : Nat) t v, Try.f10.params[j]? = some t → args[j]? = some v → Value.okWide Try.prog W .any base t v := hval0
  have hW' := hW
  have hlt := hW.lt
  obtain ⟨p, q, hA0, hV, rfl, hfz, hnd⟩ := hW
  have hA : DataW.TrodAll enc Try.prog W 0 (fun _ => true) true Try.f10.params.toList args.toList ds p := hA0
  have hAll := hA
  rw [Try.params10] at hA hval
  obtain ⟨v0, vs0, d0, ds0, p0, q0, hargs, rfl, rfl, h0, r0⟩ := trodAll_cons hA
  obtain ⟨rfl, rfl, rfl⟩ := trodAll_nil r0
  obtain rfl : args = #[v0] := by cases args; simp_all
  obtain ⟨rfl, rfl⟩ := trodVars_none hV
  obtain ⟨hs0, hf0⟩ := fields58 _ Try.underlying58
  obtain ⟨n0, g0, w0, l0⟩ := Vcg.structs_read Try.underlying37 Try.underlying58 cells58 (by decide) hf0 (hval 0 37 v0 rfl rfl) h0
  obtain ⟨a0, rfl, o0⟩ := rws_of (fun x hx => ⟨(w0 x hx).1.trans hs0, (w0 x hx).2⟩)
  have hrd : Vcg.RdL (fun _ => False) W none [rawsD a0] [v0] := by
    simp only [Vcg.RdL]
    exact ⟨_, _, rfl, rd_raws g0, rfl⟩
  have hgl : ∀ i, Vcg.Rd (fun _ => False) W none (Vcg.gl0 i) (.pointer (some ⟨i, 0, none⟩)) := fun _ => by simp only [Vcg.gl0, Vcg.Rd]
  refine (fok_ForgetReads.bool rfl hgl hrd ⟨a0, rfl, ⟨o0, by have := l0; simp only [maxLen, List.length_map] at this; omega⟩⟩ rfl).mono fun e W' ⟨he, hg⟩ => ?_
  subst he
  exact ⟨_, rfl, _, _, _, [], _, [], hW', trodAll_mk1 (shut_bool Try.underlying4 _), Vcg.trodAll_below laidOut hg (by kernel_rfl) hAll (fun x hx => hlt x (List.mem_append_left _ hx)), rfl, hg.frame _, fun h => by cases h⟩

theorem over : Rows.forgetReadsRow.holds Try.pinned (OpenSpec.ofChange Rows.forgetReadsSpec) :=
  OpenClaim.holds_of_wide 10 Try.f10 rfl rfl rfl rfl rfl rfl rfl ⟨rfl, rfl, rfl, rfl, rfl⟩ rfl rfl rfl rfl rfl (by kernel_rfl) Try.func10 (by kernel_rfl)
    (of_decide_eq_true (by kernel_rfl)) (by unfold Func.isWrapper; first | (rw [if_pos (by decide +kernel)]; kernel_rfl) | (rw [if_neg (by decide +kernel)]; exact ⟨rfl, rfl⟩))
    (fun os started H enc _ => lifted os started H enc)

/-- THE STATEMENT -/
theorem proved : Rows.ForgetReadsSaid :=
  over
end Go.Proofs.Ytjilpdgpdpibkaa.forgetReads
