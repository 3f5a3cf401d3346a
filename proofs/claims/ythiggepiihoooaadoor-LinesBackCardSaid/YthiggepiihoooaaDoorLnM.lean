/-
  Acts are compared. Conditions: those of the specification's 'pre', and that the functions that are called are what theirs say.
-/
import Derived.Test.YthiggepiihoooaaDoorAct3n
set_option linter.unusedVariables false
set_option linter.unusedSimpArgs false
namespace Go.Proofs.YthiggepiihoooaaDoor
open Go Go.Vcg

theorem hx_sameInts : sp_sameInts.hx = none := rfl
theorem pre_sameInts (a b : List Int) (ha : a.length ≤ 4000000) (hb : b.length ≤ 4000000) : sp_sameInts.pre [.fz 1 (a.map ic), .fz 1 (b.map ic)] = True := by
  simp only [sp_sameInts, eq_iff_iff, iff_true]
  exact ⟨a, b, rfl, ha, hb⟩
theorem F_sameInts (a b : List Int) : sp_sameInts.F [.fz 1 (a.map ic), .fz 1 (b.map ic)] = .bool (decide (a = b)) := by
  have h1 := intsOf_intsD a
  have h2 := intsOf_intsD b
  simp only [intsD] at h1 h2
  simp only [sp_sameInts, h1, h2]

noncomputable instance : DecidableEq Ac := fun a b => Classical.propDecidable (a = b)
noncomputable def sp_sameActs : Sp := { pre := fun ds => ∃ a b, ds = [actsD a, actsD b] ∧ (∀ x ∈ a, okAc x) ∧ (∀ x ∈ b, okAc x) ∧ a.length ≤ 4000000 ∧ b.length ≤ 4000000, F := fun | [x, y] => .bool (decide (actsOf x = actsOf y)) | _ => .any }
theorem hx_sameActs : sp_sameActs.hx = none := rfl
theorem pre_sameActs (a b : List Ac) (h1 : ∀ x ∈ a, okAc x) (h2 : ∀ x ∈ b, okAc x) (h3 : a.length ≤ 4000000) (h4 : b.length ≤ 4000000) : sp_sameActs.pre [.fz 12 (a.map actC), .fz 12 (b.map actC)] = True := by
  simp only [sp_sameActs, eq_iff_iff, iff_true]
  exact ⟨a, b, rfl, h1, h2, h3, h4⟩
theorem F_sameActs (a b : List Ac) : sp_sameActs.F [.fz 12 (a.map actC), .fz 12 (b.map actC)] = .bool (decide (a = b)) := by
  have h1 := actsOf_actsD a
  have h2 := actsOf_actsD b
  simp only [actsD] at h1 h2
  simp only [sp_sameActs, h1, h2]

section
variable {T : Tb}
attribute [local simp] k_seq k_block k_skip k_reg k_alt k_cond k_exit k_ret kf_nil kf_seq_n kf_seq_e kf_seq_r kf_blk_n kf_blk_e kf_blk_r kf_lp_n kf_lp_e kf_lp_r kf_cut_n kf_cut_e kf_cut_r mkTm VCops VCalt istep act gd applyE wrapD Opd.ev get_mk set_mk set_mk0 tget16 tset16 tget_0 tset_0 tget_1 tset_1 tget_2 tset_2 tget_3 tset_3 tget_4 tset_4 tget_5 tset_5 tget_6 tset_6 tget_7 tset_7 tget_8 tset_8 tget_9 tset_9 tget_10 tset_10 tget_11 tset_11 tget_12 tset_12 tget_13 tset_13 tget_14 tset_14 tget_15 tset_15 D.un D.gu gus IOp.opds binD fnPost getRes IRes.get oneRes D.out outL D.clos closL D.norow norowL D.lv lvL D.scal scalL D.cells D.cell D.cell' St.lk obPut obDel List.lookup cut pickD splice fillParts fillRows elem_cons newsOf D.pl D.forget forgetL Ob.forget forgetO eqCells sg leD leDL leOb apartK St.le D.keys keysL D.rows rowsL obKeys addKeys reach pos D.ren renL Ob.ren inM outM inObs outObs goneK apartN okNames_eq okNms obNms namesOK_nil namesOK_cons freeOK_nil freeOK_cons D.frz frzL Ob.frz frzO St.frz forgetLs dropObs putObs hcall freeOf keeps baseN shD isShift shMax k_bad VCopsG frz_nil actx actc cnum vwCut St.frzT St.opnT St.clsT D.opn opnL Ob.opn opnO VCou VCcx St.oneS D.objI D.objK scrL D.scr St.opnS St.clsS D.cellS D.fzs fzsL k_mrk k_mrq IOper.gh
set_option maxRecDepth 100000 in
set_option maxHeartbeats 4000000 in
theorem v_sameActs (h1 : T.sp n_reredoskeep_sameInts = some sp_sameInts) : Verified T ir_reredoskeep_sameActs sp_sameActs := by
  refine Verified.mk ?_
  rintro ds ⟨a, b, rfl, ka, kb, ha, hb⟩
  simp only [actsD, F_sameActs]
  simp (implicitDefEqProofs := false) [ir_reredoskeep_sameActs]
  refine ⟨fun q e => q (by subst e; rfl), fun q => ?_⟩
  have q : a.length = b.length := by omega
  refine k_loop (ι := {i : Nat // i ≤ a.length ∧ a.take i = b.take i}) (fun x => ⟨mkTm 82 0 [(0, .fz 12 (a.map actC)), (1, .fz 12 (b.map actC)), (5, .int .i64 x.1)], []⟩)
    (fun x => a.length - x.1) [] ⟨0, by simp⟩ (by simp) ?_
  rintro ⟨i, hi, he⟩ P hP
  rcases Nat.lt_or_ge i a.length with h | h
  · have h' : i < b.length := by omega
    have hi1 : (i : Int) < a.length := by omega
    have hi2 : (i : Int) < b.length := by omega
    have e1 := elem_map actC a i h
    have e2 := elem_map actC b i h'
    have t1 : a.take (i + 1) = a.take i ++ [a[i]] := (List.take_append_getElem h).symm
    have t2 : b.take (i + 1) = b.take i ++ [b[i]] := (List.take_append_getElem h').symm
    have oa := ka _ (List.getElem_mem h)
    have ob := kb _ (List.getElem_mem h')
    have hne : a[i] ≠ b[i] → ¬ a = b := fun n e => n (by subst e; rfl)
    generalize a[i] = x at e1 t1 hne oa
    generalize b[i] = y at e2 t2 hne ob
    obtain ⟨x1, x2, x3, x4, x5, x6, ⟨u1, u2, u3, u4, u5⟩, x7⟩ := x
    obtain ⟨y1, y2, y3, y4, y5, y6, ⟨w1, w2, w3, w4, w5⟩, y7⟩ := y
    simp only [okAc] at oa ob
    have hps := pre_sameInts x6 y6 oa ob
    by_cases c1 : x1 = y1
    · subst c1
      by_cases c2 : x2 = y2
      · subst c2
        by_cases c3 : x3 = y3
        · subst c3
          by_cases c4 : x4 = y4
          · subst c4
            by_cases c5 : x5 = y5
            · subst c5
              by_cases c6 : u1 = w1 ∧ u2 = w2 ∧ u3 = w3 ∧ u4 = w4 ∧ u5 = w5
              · obtain ⟨rfl, rfl, rfl, rfl, rfl⟩ := c6
                by_cases c7 : x7 = y7
                · subst c7
                  by_cases c8 : x6 = y6
                  · subst c8
                    simp (implicitDefEqProofs := false) [ir_reredoskeep_sameActs_b0, hi1, hi2, h, h', e1, e2, actC, h1, hx_sameInts, hps, F_sameInts]
                    exact ⟨by simp only [inR]; omega, hP _ [] ⟨i + 1, by omega, by rw [t1, t2, he]⟩ (by simp) (by simp; omega)⟩
                  · simp (implicitDefEqProofs := false) [ir_reredoskeep_sameActs_b0, hi1, hi2, h, h', e1, e2, actC, h1, hx_sameInts, hps, F_sameInts, c8]
                    exact hne (by simp [c8])
                · simp (implicitDefEqProofs := false) [ir_reredoskeep_sameActs_b0, hi1, hi2, h, h', e1, e2, actC, h1, hx_sameInts, hps, F_sameInts, c7]
                  exact hne (by simp [c7])
              · have c6' : (u1 == w1 && (u2 == w2 && (u3 == w3 && (u4 == w4 && u5 == w5)))) = false := by
                  rw [Bool.eq_false_iff]; simpa using c6
                have c6'' : (u1 == w1 && (u2 == w2 && (u3 == w3 && (u4 == w4 && (u5 == w5 && true))))) = false := by
                  rw [Bool.and_true]; exact c6'
                simp (implicitDefEqProofs := false) [ir_reredoskeep_sameActs_b0, hi1, hi2, h, h', e1, e2, actC, h1, hx_sameInts, hps, F_sameInts, c6', c6'']
                refine hne fun ee => c6 ?_
                injection ee with _ _ _ _ _ _ ee
                injection ee with z1 z2 z3 z4 z5
                exact ⟨z1, z2, z3, z4, z5⟩
            · simp (implicitDefEqProofs := false) [ir_reredoskeep_sameActs_b0, hi1, hi2, h, h', e1, e2, actC, h1, hx_sameInts, hps, F_sameInts, c5]
              exact hne (by simp [c5])
          · simp (implicitDefEqProofs := false) [ir_reredoskeep_sameActs_b0, hi1, hi2, h, h', e1, e2, actC, h1, hx_sameInts, hps, F_sameInts, c4]
            exact hne (by simp [c4])
        · simp (implicitDefEqProofs := false) [ir_reredoskeep_sameActs_b0, hi1, hi2, h, h', e1, e2, actC, h1, hx_sameInts, hps, F_sameInts, c3]
          exact hne (by simp [c3])
      · simp (implicitDefEqProofs := false) [ir_reredoskeep_sameActs_b0, hi1, hi2, h, h', e1, e2, actC, h1, hx_sameInts, hps, F_sameInts, c2]
        exact hne (by simp [c2])
    · simp (implicitDefEqProofs := false) [ir_reredoskeep_sameActs_b0, hi1, hi2, h, h', e1, e2, actC, h1, hx_sameInts, hps, F_sameInts, c1]
      exact hne (by simp [c1])
  · have hi1 : ¬ (i : Int) < a.length := by omega
    simp (implicitDefEqProofs := false) [ir_reredoskeep_sameActs_b0, ir_reredoskeep_sameActs_r1, hi1]
    rw [List.take_of_length_le h, List.take_of_length_le (by omega)] at he
    exact he
end
end Go.Proofs.YthiggepiihoooaaDoor
