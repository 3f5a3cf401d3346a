/-
  Rows.ForceOnceSaid: the Go function reredoskeep.ForceOnce returns true on all its inputs and leaves what was there as it was. Conditions: none.
-/
import Derived.Test.YtjilpdgpdpibkaaRows
import Derived.Test.YtjilpdgpdpibkaaStXForceOnce
import Derived.WalkKit
import Derived.ProofKit
namespace Go.Proofs.Ytjilpdgpdpibkaa.forceOnce
open Go.ChangeShapes Go.WideShapes Go.ChangeAt Go.RowKit
set_option linter.unusedVariables false

theorem own : ownKnob Try.prog.godebug = none := by kernel_rfl
theorem laidOut : laidOutB Try.prog = true := by kernel_rfl
theorem cells58 : Try.prog.cellsOf 58 = 6 := by kernel_rfl
theorem cellsF58 : Try.prog.cellsOf 3 = 1 := by kernel_rfl
theorem fields58 (fs : Array Field) (h : Try.prog.underlying 58 = some (.struct fs)) : fs.size = 6 ∧ ∀ i, i < fs.size → ∃ f, fs[i]? = some f ∧ f.offset = i ∧ Try.prog.underlying f.type = some (.int .i64) ∧ Try.prog.cellsOf f.type = 1 := by
  have hu := Try.underlying58
  rw [h] at hu
  injection hu with hu
  injection hu with hu
  subst hu
  refine ⟨rfl, fun i hi => ?_⟩
  have hi' : i < 6 := hi
  have : i = 0 ∨ i = 1 ∨ i = 2 ∨ i = 3 ∨ i = 4 ∨ i = 5 := by omega
  rcases this with rfl | rfl | rfl | rfl | rfl | rfl <;> exact ⟨_, rfl, rfl, Try.underlying3, cellsF58⟩

set_option maxRecDepth 100000 in
theorem lifted (os : Os) (started : os.Started) (H : Type) (enc : TypeId × Value → H) :
    ReturnsInHanded {} Try.checked os 13 .any (Rows.forceOnceSpec.pre6 enc Try.prog Try.f13 Rows.forceOnceRow.domain false) (Rows.forceOnceSpec.post enc Try.prog Try.f13 false true false false) := by
  refine returnsInHanded_of_change (C := Try.checked) own started (by kernel_rfl) Try.func13
    (ChangeSpec.witness6 (enc := enc) (C := Try.checked) false ⟨#[], #[.slice none 0 0, .agg #[.int .i64 0, .int .i64 0, .int .i64 0, .int .i64 0, .int .i64 0, .int .i64 0], .bool false], []⟩ 8 (by kernel_rfl) (by kernel_rfl) (by kernel_rfl) (by kernel_rfl)) ?_
  intro W base args ds gs before hval0 hW hcnd hwt
  have hval : ∀ (j : Nat) t v, Try.f13.params[j]? = some t → args[j]? = some v → Value.okWide Try.prog W .any base t v := hval0
  have hW' := hW
  have hlt := hW.lt
  obtain ⟨p, q, hA0, hV, rfl, hfz, hnd⟩ := hW
  have hA : DataW.TrodAll enc Try.prog W 0 (fun _ => true) true Try.f13.params.toList args.toList ds p := hA0
  have hAll := hA
  rw [Try.params13] at hA hval
  obtain ⟨v0, vs0, d0, ds0, p0, q0, hargs, rfl, rfl, h0, r0⟩ := trodAll_cons hA
  obtain ⟨v1, vs1, d1, ds1, p1, q1, rfl, rfl, rfl, h1, r1⟩ := trodAll_cons r0
  obtain ⟨v2, vs2, d2, ds2, p2, q2, rfl, rfl, rfl, h2, r2⟩ := trodAll_cons r1
  obtain ⟨rfl, rfl, rfl⟩ := trodAll_nil r2
  obtain rfl : args = #[v0, v1, v2] := by cases args; simp_all
  obtain ⟨rfl, rfl⟩ := trodVars_none hV
  obtain ⟨hs0, hf0⟩ := fields58 _ Try.underlying58
  obtain ⟨n0, g0, w0, l0⟩ := Vcg.structs_read Try.underlying37 Try.underlying58 cells58 (by decide) hf0 (hval 0 37 v0 rfl rfl) h0
  obtain ⟨a0, rfl, o0⟩ := rws_of (fun x hx => ⟨(w0 x hx).1.trans hs0, (w0 x hx).2⟩)
  obtain ⟨hs1, hf1⟩ := fields58 _ Try.underlying58
  obtain ⟨n1, rfl, e1, w1⟩ := Vcg.struct_read Try.underlying58 cells58 hf1 (hval 1 58 v1 rfl rfl) h1
  obtain ⟨a1, rfl, o1⟩ := rw_of (e1.trans hs1) w1
  obtain ⟨a2, rfl, rfl, rfl⟩ := Go.RowKit.open_bool Try.underlying4 (hval 2 4 v2 rfl rfl) h2
  have hrd : Vcg.RdL (fun _ => False) W none [rawsD a0, rawD a1, .bool a2] [v0, .agg ((rwL a1).map (.int .i64)).toArray, .bool a2] := by
    simp only [Vcg.RdL]
    exact ⟨_, _, rfl, rd_raws g0, _, _, rfl, rd_raw a1, _, _, rfl, by simp only [Vcg.Rd], rfl⟩
  have hgl : ∀ i, Vcg.Rd (fun _ => False) W none (Vcg.gl0 i) (.pointer (some ⟨i, 0, none⟩)) := fun _ => by simp only [Vcg.gl0, Vcg.Rd]
  refine (fok_ForceOnce.bool rfl hgl hrd ⟨a0, a1, a2, rfl, ⟨o0, by have := l0; simp only [maxLen, List.length_map] at this; omega⟩, o1⟩ rfl).mono fun e W' ⟨he, hg⟩ => ?_
  subst he
  exact ⟨_, rfl, _, _, _, [], _, [], hW', trodAll_mk1 (shut_bool Try.underlying4 _), Vcg.trodAll_below laidOut hg (by kernel_rfl) hAll (fun x hx => hlt x (List.mem_append_left _ hx)), rfl, hg.frame _, fun h => by cases h⟩

theorem over : Rows.forceOnceRow.holds Try.pinned (OpenSpec.ofChange Rows.forceOnceSpec) :=
  OpenClaim.holds_of_wide 13 Try.f13 rfl rfl rfl rfl rfl rfl rfl ⟨rfl, rfl, rfl, rfl, rfl⟩ rfl rfl rfl rfl rfl (by kernel_rfl) Try.func13 (by kernel_rfl)
    (of_decide_eq_true (by kernel_rfl)) (by unfold Func.isWrapper; first | (rw [if_pos (by decide +kernel)]; kernel_rfl) | (rw [if_neg (by decide +kernel)]; exact ⟨rfl, rfl⟩))
    (fun os started H enc _ => lifted os started H enc)

/-- THE STATEMENT -/
theorem proved : Rows.ForceOnceSaid :=
  over
end Go.Proofs.Ytjilpdgpdpibkaa.forceOnce
