/-
  Rows.PurgeMoreSaid: the Go function reredoskeep.PurgeMore returns true on all its inputs and leaves what was there as it was. Conditions: none.
-/
import Derived.Test.YtccoiplnonfkgaaRows
import Derived.Test.YtccoiplnonfkgaaActTab
import Derived.WalkKit
import Derived.ProofKit
namespace Go.Proofs.Ytccoiplnonfkgaa.purgeMore
open Go.ChangeShapes Go.WideShapes Go.ChangeAt Go.RowKit
set_option linter.unusedVariables false

theorem own : ownKnob Try.prog.godebug = none := by kernel_rfl
theorem laidOut : laidOutB Try.prog = true := by kernel_rfl
theorem cells3 : Try.prog.cellsOf 3 = 1 := by kernel_rfl
theorem cells56 : Try.prog.cellsOf 56 = 6 := by kernel_rfl
theorem cellsF56 : Try.prog.cellsOf 3 = 1 := by kernel_rfl
theorem fields56 (fs : Array Field) (h : Try.prog.underlying 56 = some (.struct fs)) : fs.size = 6 ∧ ∀ i, i < fs.size → ∃ f, fs[i]? = some f ∧ f.offset = i ∧ Try.prog.underlying f.type = some (.int .i64) ∧ Try.prog.cellsOf f.type = 1 := by
  have hu := Try.underlying56
  rw [h] at hu
  injection hu with hu
  injection hu with hu
  subst hu
  refine ⟨rfl, fun i hi => ?_⟩
  have hi' : i < 6 := hi
  have : i = 0 ∨ i = 1 ∨ i = 2 ∨ i = 3 ∨ i = 4 ∨ i = 5 := by omega
  rcases this with rfl | rfl | rfl | rfl | rfl | rfl <;> exact ⟨_, rfl, rfl, Try.underlying3, cellsF56⟩

set_option maxRecDepth 100000 in
theorem lifted (os : Os) (started : os.Started) (H : Type) (enc : TypeId × Value → H) :
    ReturnsInHanded {} Try.checked os 10 .any (Rows.purgeMoreSpec.pre6 enc Try.prog Try.f10 Rows.purgeMoreRow.domain false) (Rows.purgeMoreSpec.post enc Try.prog Try.f10 false true false false) := by
  refine returnsInHanded_of_change (C := Try.checked) own started (by kernel_rfl) Try.func10
    (ChangeSpec.witness6 (enc := enc) (C := Try.checked) false ⟨#[], #[.int .i64 0, .slice none 0 0, .int .i64 0, .slice none 0 0, .int .i64 0, .int .i64 0], []⟩ 8 (by kernel_rfl) (by kernel_rfl) (by kernel_rfl) (by kernel_rfl)) ?_
  intro W base args ds gs before hval0 hW hcnd _
  have hval : ∀ (j : Nat) t v, Try.f10.params[j]? = some t → args[j]? = some v → Value.okWide Try.prog W .any base t v := hval0
  have hW' := hW
  have hlt := hW.lt
  obtain ⟨p, q, hA0, hV, rfl, hfz, hnd⟩ := hW
  have hA : DataW.TrodAll enc Try.prog W 0 (fun _ => true) true Try.f10.params.toList args.toList ds p := hA0
  have hAll := hA
  rw [Try.params10] at hA hval
  obtain ⟨v0, vs0, d0, ds0, p0, q0, hargs, rfl, rfl, h0, r0⟩ := trodAll_cons hA
  obtain ⟨v1, vs1, d1, ds1, p1, q1, rfl, rfl, rfl, h1, r1⟩ := trodAll_cons r0
  obtain ⟨v2, vs2, d2, ds2, p2, q2, rfl, rfl, rfl, h2, r2⟩ := trodAll_cons r1
  obtain ⟨v3, vs3, d3, ds3, p3, q3, rfl, rfl, rfl, h3, r3⟩ := trodAll_cons r2
  obtain ⟨v4, vs4, d4, ds4, p4, q4, rfl, rfl, rfl, h4, r4⟩ := trodAll_cons r3
  obtain ⟨v5, vs5, d5, ds5, p5, q5, rfl, rfl, rfl, h5, r5⟩ := trodAll_cons r4
  obtain ⟨rfl, rfl, rfl⟩ := trodAll_nil r5
  obtain rfl : args = #[v0, v1, v2, v3, v4, v5] := by cases args; simp_all
  obtain ⟨rfl, rfl⟩ := trodVars_none hV
  obtain ⟨a0, rfl, rfl, rfl, w0⟩ := open_int Try.underlying3 (hval 0 3 v0 rfl rfl) h0
  obtain ⟨a1, g1, w1, l1⟩ := Vcg.ints_read Try.underlying28 Try.underlying3 cells3 (hval 1 28 v1 rfl rfl) h1
  obtain ⟨a2, rfl, rfl, rfl, w2⟩ := open_int Try.underlying3 (hval 2 3 v2 rfl rfl) h2
  obtain ⟨hs3, hf3⟩ := fields56 _ Try.underlying56
  obtain ⟨n3, g3, w3, l3⟩ := Vcg.structs_read Try.underlying40 Try.underlying56 cells56 (by decide) hf3 (hval 3 40 v3 rfl rfl) h3
  obtain ⟨a3, rfl, o3⟩ := rws_of (fun x hx => ⟨(w3 x hx).1.trans hs3, (w3 x hx).2⟩)
  obtain ⟨a4, rfl, rfl, rfl, w4⟩ := open_int Try.underlying3 (hval 4 3 v4 rfl rfl) h4
  obtain ⟨a5, rfl, rfl, rfl, w5⟩ := open_int Try.underlying3 (hval 5 3 v5 rfl rfl) h5
  have hrd : Vcg.RdL (fun _ => False) W none [.int .i64 a0, intsD a1, .int .i64 a2, rawsD a3, .int .i64 a4, .int .i64 a5] [.int .i64 a0, v1, .int .i64 a2, v3, .int .i64 a4, .int .i64 a5] := by
    simp only [Vcg.RdL]
    exact ⟨_, _, rfl, by simp only [Vcg.Rd], _, _, rfl, g1, _, _, rfl, by simp only [Vcg.Rd], _, _, rfl, rd_raws g3, _, _, rfl, by simp only [Vcg.Rd], _, _, rfl, by simp only [Vcg.Rd], rfl⟩
  have hgl : ∀ i, Vcg.Rd (fun _ => False) W none (Vcg.gl0 i) (.pointer (some ⟨i, 0, none⟩)) := fun _ => by simp only [Vcg.gl0, Vcg.Rd]
  refine (fok_PurgeMore.bool rfl hgl hrd ⟨a0, a1, a2, a3, a4, a5, rfl, Vcg.inR_of_wf w0, ⟨w1, by have := l1; simp only [maxLen] at this; omega⟩, Vcg.inR_of_wf w2, ⟨o3, by have := l3; simp only [maxLen, List.length_map] at this; omega⟩, Vcg.inR_of_wf w4, Vcg.inR_of_wf w5⟩ rfl).mono fun e W' ⟨he, hg⟩ => ?_
  subst he
  exact ⟨_, rfl, _, _, _, [], _, [], hW', trodAll_mk1 (shut_bool Try.underlying4 _), Vcg.trodAll_below laidOut hg (by kernel_rfl) hAll (fun x hx => hlt x (List.mem_append_left _ hx)), rfl, hg.frame _, fun h => by cases h⟩

theorem over : Rows.purgeMoreRow.holds Try.pinned (OpenSpec.ofChange Rows.purgeMoreSpec) :=
  OpenClaim.holds_of_wide 10 Try.f10 rfl rfl rfl rfl rfl rfl rfl ⟨rfl, rfl, rfl, rfl, rfl⟩ rfl rfl rfl rfl rfl (by kernel_rfl) Try.func10 (by kernel_rfl)
    (of_decide_eq_true (by kernel_rfl)) (by unfold Func.isWrapper; first | (rw [if_pos (by decide +kernel)]; kernel_rfl) | (rw [if_neg (by decide +kernel)]; exact ⟨rfl, rfl⟩))
    (fun os started H enc _ => lifted os started H enc)

/-- THE STATEMENT -/
theorem proved : Rows.PurgeMoreSaid :=
  over
end Go.Proofs.Ytccoiplnonfkgaa.purgeMore
