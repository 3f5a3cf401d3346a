/-
  Rows.TaskTwiceSaid: the Go function reredoskeep.TaskTwice returns true on all its inputs and leaves what was there as it was. Conditions: none.
-/
import Derived.Test.YtchbnpjegacobaaRows
import Derived.Test.YtchbnpjegacobaaDkP
import Derived.WalkKit
import Derived.ProofKit
namespace Go.Proofs.Ytchbnpjegacobaa.taskTwice
open Go.ChangeShapes Go.WideShapes Go.ChangeAt Go.RowKit
set_option linter.unusedVariables false

theorem own : ownKnob Try.prog.godebug = none := by kernel_rfl
theorem laidOut : laidOutB Try.prog = true := by kernel_rfl

set_option maxRecDepth 100000 in
theorem lifted (os : Os) (started : os.Started) (H : Type) (enc : TypeId × Value → H) :
    ReturnsInHanded {} Try.checked os 4 .any (Rows.taskTwiceSpec.pre6 enc Try.prog Try.f4 Rows.taskTwiceRow.domain false) (Rows.taskTwiceSpec.post enc Try.prog Try.f4 false true false false) := by
  refine returnsInHanded_of_change (C := Try.checked) own started (by kernel_rfl) Try.func4
    (ChangeSpec.witness6 (enc := enc) (C := Try.checked) false ⟨#[], #[.int .i64 0, .int .i64 0, .bool false], []⟩ 8 (by kernel_rfl) (by kernel_rfl) (by kernel_rfl) (by kernel_rfl)) ?_
  intro W base args ds gs before hval0 hW hcnd hwt
  have hval : ∀ (j : Nat) t v, Try.f4.params[j]? = some t → args[j]? = some v → Value.okWide Try.prog W .any base t v := hval0
  have hW' := hW
  have hlt := hW.lt
  obtain ⟨p, q, hA0, hV, rfl, hfz, hnd⟩ := hW
  have hA : DataW.TrodAll enc Try.prog W 0 (fun _ => true) true Try.f4.params.toList args.toList ds p := hA0
  have hAll := hA
  rw [Try.params4] at hA hval
  obtain ⟨v0, vs0, d0, ds0, p0, q0, hargs, rfl, rfl, h0, r0⟩ := trodAll_cons hA
  obtain ⟨v1, vs1, d1, ds1, p1, q1, rfl, rfl, rfl, h1, r1⟩ := trodAll_cons r0
  obtain ⟨v2, vs2, d2, ds2, p2, q2, rfl, rfl, rfl, h2, r2⟩ := trodAll_cons r1
  obtain ⟨rfl, rfl, rfl⟩ := trodAll_nil r2
  obtain rfl : args = #[v0, v1, v2] := by cases args; simp_all
  obtain ⟨rfl, rfl⟩ := trodVars_none hV
  obtain ⟨a0, rfl, rfl, rfl, w0⟩ := open_int Try.underlying3 (hval 0 3 v0 rfl rfl) h0
  obtain ⟨a1, rfl, rfl, rfl, w1⟩ := open_int Try.underlying3 (hval 1 3 v1 rfl rfl) h1
  obtain ⟨a2, rfl, rfl, rfl⟩ := Go.RowKit.open_bool Try.underlying4 (hval 2 4 v2 rfl rfl) h2
  have hrd : Vcg.RdL (fun _ => False) W none [.int .i64 a0, .int .i64 a1, .bool a2] [.int .i64 a0, .int .i64 a1, .bool a2] := by
    simp only [Vcg.RdL]
    exact ⟨_, _, rfl, by simp only [Vcg.Rd], _, _, rfl, by simp only [Vcg.Rd], _, _, rfl, by simp only [Vcg.Rd], rfl⟩
  have hgl : ∀ i, Vcg.Rd (fun _ => False) W none (Vcg.gl0 i) (.pointer (some ⟨i, 0, none⟩)) := fun _ => by simp only [Vcg.gl0, Vcg.Rd]
  refine (fok_TaskTwice.bool rfl hgl hrd ⟨a0, a1, a2, rfl, Vcg.inR_of_wf w0, Vcg.inR_of_wf w1⟩ rfl).mono fun e W' ⟨he, hg⟩ => ?_
  subst he
  exact ⟨_, rfl, _, _, _, [], _, [], hW', trodAll_mk1 (shut_bool Try.underlying4 _), Vcg.trodAll_below laidOut hg (by kernel_rfl) hAll (fun x hx => hlt x (List.mem_append_left _ hx)), rfl, hg.frame _, fun h => by cases h⟩

theorem over : Rows.taskTwiceRow.holds Try.pinned (OpenSpec.ofChange Rows.taskTwiceSpec) :=
  OpenClaim.holds_of_wide 4 Try.f4 rfl rfl rfl rfl rfl rfl rfl ⟨rfl, rfl, rfl, rfl, rfl⟩ rfl rfl rfl rfl rfl (by kernel_rfl) Try.func4 (by kernel_rfl)
    (of_decide_eq_true (by kernel_rfl)) (by unfold Func.isWrapper; first | (rw [if_pos (by decide +kernel)]; kernel_rfl) | (rw [if_neg (by decide +kernel)]; exact ⟨rfl, rfl⟩))
    (fun os started H enc _ => lifted os started H enc)

/-- THE STATEMENT -/
theorem proved : Rows.TaskTwiceSaid :=
  over
end Go.Proofs.Ytchbnpjegacobaa.taskTwice
