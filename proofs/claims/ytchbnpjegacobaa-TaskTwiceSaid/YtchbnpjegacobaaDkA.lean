/-
  Desks are compared. Conditions: those of each specification's 'pre', and that the functions that are called are what theirs say.
-/
import Derived.Test.YtchbnpjegacobaaCoY
set_option linter.unusedVariables false
set_option linter.unusedSimpArgs false
namespace Go.Proofs.Ytchbnpjegacobaa
open Go Go.Vcg

def sp_sameDesk : Sp := { pre := fun ds => ∃ d e : Int × List Jb, ds = [dkD d, dkD e] ∧ fewD d ∧ fewD e, F := fun | [x, y] => .bool (decide (dkOf x = dkOf y)) | _ => .any }
theorem sameDesk_F (d e : Int × List Jb) : sp_sameDesk.F [dkD d, dkD e] = .bool (decide (d = e)) := by
  simp only [sp_sameDesk, dkOf_dkD]
theorem sameDesk_pre {d e : Int × List Jb} (h1 : fewD d) (h2 : fewD e) : sp_sameDesk.pre [dkD d, dkD e] = True := by
  simp only [sp_sameDesk, eq_iff_iff, iff_true]; exact ⟨d, e, rfl, h1, h2⟩
section
variable {T : Tb}
attribute [local simp] k_seq k_block k_skip k_reg k_alt k_cond k_exit k_ret kf_nil kf_seq_n kf_seq_e kf_seq_r kf_blk_n kf_blk_e kf_blk_r kf_lp_n kf_lp_e kf_lp_r kf_cut_n kf_cut_e kf_cut_r mkTm VCops VCalt istep act gd applyE wrapD Opd.ev get_mk set_mk set_mk0 tget16 tset16 tget_0 tset_0 tget_1 tset_1 tget_2 tset_2 tget_3 tset_3 tget_4 tset_4 tget_5 tset_5 tget_6 tset_6 tget_7 tset_7 tget_8 tset_8 tget_9 tset_9 tget_10 tset_10 tget_11 tset_11 tget_12 tset_12 tget_13 tset_13 tget_14 tset_14 tget_15 tset_15 D.un D.gu gus IOp.opds binD fnPost getRes IRes.get oneRes D.out outL D.clos closL D.norow norowL D.lv lvL D.scal scalL D.cells D.cell D.cell' St.lk obPut obDel List.lookup cut pickD splice fillParts fillRows elem_cons newsOf D.pl D.forget forgetL Ob.forget forgetO eqCells sg leD leDL leOb apartK St.le D.keys keysL D.rows rowsL obKeys addKeys reach pos D.ren renL Ob.ren inM outM inObs outObs goneK apartN okNames_eq okNms obNms namesOK_nil namesOK_cons freeOK_nil freeOK_cons D.frz frzL Ob.frz frzO St.frz forgetLs dropObs putObs hcall freeOf keeps baseN shD isShift shMax k_bad VCopsG frz_nil actx actc cnum vwCut St.frzT St.opnT St.clsT D.opn opnL Ob.opn opnO VCou VCcx St.oneS D.objI D.objK scrL D.scr St.opnS St.clsS D.cellS D.fzs fzsL k_mrk k_mrq IOper.gh
set_option maxRecDepth 100000 in
set_option maxHeartbeats 16000000 in
theorem v_sameDesk (h1 : T.sp n_reredoskeep_sameInts = some sp_sameIntsR) : Verified T ir_reredoskeep_sameDesk sp_sameDesk := by
  refine Verified.mk ?_
  rintro ds ⟨⟨n, js⟩, ⟨n', js'⟩, rfl, ⟨hd1, hd2⟩, ⟨he1, he2⟩⟩
  rw [sameDesk_F]
  have x1 : sp_sameIntsR.hx = none := rfl
  simp only at hd1 hd2 he1 he2
  simp only [dkD, dkC]
  by_cases hn : n = n'
  · by_cases hl : js.length = js'.length
    · subst hn
      have hl' : (js.length : Int) = js'.length := by omega
      simp (implicitDefEqProofs := false) (maxSteps := 10000000) [ir_reredoskeep_sameDesk, hl', hl]
      refine k_loop (ι := {k : Nat // k ≤ js.length ∧ js.take k = js'.take k}) (fun x => ⟨mkTm 101 0 [(2, .own 2 0), (3, .own 3 0), (25, .int .i64 js.length), (26, .int .i64 x.1)], [(2, .box [.int .i64 n, .fz 6 (js.map jbC)]), (3, .box [.int .i64 n, .fz 6 (js'.map jbC)])]⟩)
        (fun x => js.length - x.1) [] ⟨0, by simp⟩ (by simp [hl]) ?_
      rintro ⟨k, hk, ht⟩ P hP
      rcases Nat.lt_or_ge k js.length with h | h
      · have h' : k < js'.length := by omega
        have hk1 : (k : Int) < js.length := by omega
        have hk2 : (k : Int) < js'.length := by omega
        have e1 := elem_map jbC js k h
        have e2 := elem_map jbC js' k h'
        obtain ⟨f1, f2⟩ := hd2 _ (List.getElem_mem h)
        obtain ⟨f3, f4⟩ := he2 _ (List.getElem_mem h')
        have t1 : js.take (k + 1) = js.take k ++ [js[k]] := (List.take_append_getElem h).symm
        have t2 : js'.take (k + 1) = js'.take k ++ [js'[k]] := (List.take_append_getElem h').symm
        have hne : js[k] ≠ js'[k] → ¬ js = js' := fun q e => q (by subst e; rfl)
        have hnx : js[k] = js'[k] → js.take (k + 1) = js'.take (k + 1) := fun q => by rw [t1, t2, ht, q]
        have g1 := F_sameIntsR js[k].asked js'[k].asked
        have g2 := pre_sameIntsR js[k].asked js'[k].asked (by omega) (by omega)
        generalize js[k] = u at e1 f1 f2 hne hnx g1 g2
        generalize js'[k] = v at e2 f3 f4 hne hnx g1 g2
        obtain ⟨a1, a2, a3, a4, a5, a6⟩ := u
        obtain ⟨b1, b2, b3, b4, b5, b6⟩ := v
        simp only [jbC, Jb.mk.injEq, ne_eq] at e1 e2 f1 f2 f3 f4 hne hnx g1 g2
        simp (implicitDefEqProofs := false) (maxSteps := 10000000) [ir_reredoskeep_sameDesk_b2, hk1, h, hk2, h', e1, e2, h1, x1, g1, g2]
        refine ⟨fun q => hne ?_, fun q1 q2 q3 q4 q5 q6 => ?_⟩
        · rintro ⟨rfl, rfl, rfl, rfl, rfl, rfl⟩
          simp at q
        have q5' : a3.length = b3.length := by omega
        refine k_loop (ι := {q : Nat // q ≤ a3.length ∧ a3.take q = b3.take q}) (fun x => ⟨mkTm 101 0 [(2, .own 2 0), (3, .own 3 0), (6, .own 6 0), (7, .own 7 0), (25, .int .i64 js.length), (26, .int .i64 k), (84, .int .i64 a3.length), (85, .int .i64 x.1)], [(2, .box [.int .i64 n, .fz 6 (js.map jbC)]), (3, .box [.int .i64 n, .fz 6 (js'.map jbC)]), (6, .box [.int .i64 a1, .int .i64 a2, .fz 8 (a3.map tkC), .fz 1 (a4.map ic), .int .i64 a5, .int .i64 a6]), (7, .box [.int .i64 b1, .int .i64 b2, .fz 8 (b3.map tkC), .fz 1 (b4.map ic), .int .i64 b5, .int .i64 b6])]⟩)
          (fun x => a3.length - x.1) [] ⟨0, by simp⟩ (by simp) ?_
        rintro ⟨q, hq, hqt⟩ P' hP'
        rcases Nat.lt_or_ge q a3.length with r | r
        · have r' : q < b3.length := by omega
          have rk1 : (q : Int) < a3.length := by omega
          have rk2 : (q : Int) < b3.length := by omega
          have i1 := elem_map tkC a3 q r
          have i2 := elem_map tkC b3 q r'
          have u1 : a3.take (q + 1) = a3.take q ++ [a3[q]] := (List.take_append_getElem r).symm
          have u2 : b3.take (q + 1) = b3.take q ++ [b3[q]] := (List.take_append_getElem r').symm
          have une : a3[q] ≠ b3[q] → ¬ js = js' := fun z => hne (fun e => z (by obtain ⟨_, _, e, _⟩ := e; subst e; rfl))
          have unx : a3[q] = b3[q] → a3.take (q + 1) = b3.take (q + 1) := fun z => by rw [u1, u2, hqt, z]
          generalize a3[q] = c at i1 une unx
          generalize b3[q] = d at i2 une unx
          obtain ⟨c1, c2, c3, c4, c5, c6, c7, c8⟩ := c
          obtain ⟨d1, d2, d3, d4, d5, d6, d7, d8⟩ := d
          simp only [tkC, Tk.mk.injEq, ne_eq] at i1 i2 une unx
          simp (implicitDefEqProofs := false) (maxSteps := 10000000) [ir_reredoskeep_sameDesk_b0, rk1, r, rk2, r', i1, i2]
          refine ⟨fun z => une ?_, fun z1 z2 z3 z4 z5 z6 z7 z8 => ⟨by simp only [inR]; omega, hP' _ [] ⟨q + 1, by omega, unx ⟨z1, z2, z3, z4, z5, z6, z7, z8⟩⟩ (by simp) (by simp; omega)⟩⟩
          rintro ⟨rfl, rfl, rfl, rfl, rfl, rfl, rfl, rfl⟩
          simp at z
        · have rk1 : ¬ (q : Int) < a3.length := by omega
          have he3 : a3 = b3 := by
            rw [List.take_of_length_le r, List.take_of_length_le (by omega)] at hqt
            exact hqt
          simp (implicitDefEqProofs := false) (maxSteps := 10000000) [ir_reredoskeep_sameDesk_b0, ir_reredoskeep_sameDesk_r1, rk1]
          exact ⟨by simp only [inR]; omega, hP _ [] ⟨k + 1, by omega, hnx ⟨q1, q2, he3, q6, q3, q4⟩⟩ (by simp) (by simp; omega)⟩
      · have hk1 : ¬ (k : Int) < js.length := by omega
        have he : js = js' := by
          rw [List.take_of_length_le h, List.take_of_length_le (by omega)] at ht
          exact ht
        subst he
        simp (implicitDefEqProofs := false) (maxSteps := 10000000) [ir_reredoskeep_sameDesk_b2, ir_reredoskeep_sameDesk_r3, hk1]
    · have hl' : ¬ (js.length : Int) = js'.length := by omega
      have hj : ¬ js = js' := fun e => hl (by rw [e])
      simp (implicitDefEqProofs := false) (maxSteps := 10000000) [ir_reredoskeep_sameDesk, hl', hl, hn, hj]
  · simp (implicitDefEqProofs := false) (maxSteps := 10000000) [ir_reredoskeep_sameDesk, hn]
end
end Go.Proofs.Ytchbnpjegacobaa
