/-
  Turns at a coordinator: a task that was asked for is done, or not. Conditions: those of each specification's 'pre', and that the functions that are called are what theirs say.
-/
import Derived.Test.YtchbnpjegacobaaDoorCoO
set_option linter.unusedVariables false
set_option linter.unusedSimpArgs false
namespace Go.Proofs.YtchbnpjegacobaaDoor
open Go Go.Vcg

section
variable {T : Tb}
attribute [local simp] k_seq k_block k_skip k_reg k_alt k_cond k_exit k_ret kf_nil kf_seq_n kf_seq_e kf_seq_r kf_blk_n kf_blk_e kf_blk_r kf_lp_n kf_lp_e kf_lp_r kf_cut_n kf_cut_e kf_cut_r mkTm VCops VCalt istep act gd applyE wrapD Opd.ev get_mk set_mk set_mk0 tget16 tset16 tget_0 tset_0 tget_1 tset_1 tget_2 tset_2 tget_3 tset_3 tget_4 tset_4 tget_5 tset_5 tget_6 tset_6 tget_7 tset_7 tget_8 tset_8 tget_9 tset_9 tget_10 tset_10 tget_11 tset_11 tget_12 tset_12 tget_13 tset_13 tget_14 tset_14 tget_15 tset_15 D.un D.gu gus IOp.opds binD fnPost getRes IRes.get oneRes D.out outL D.clos closL D.norow norowL D.lv lvL D.scal scalL D.cells D.cell D.cell' St.lk obPut obDel List.lookup cut pickD splice fillParts fillRows elem_cons newsOf D.pl D.forget forgetL Ob.forget forgetO eqCells sg leD leDL leOb apartK St.le D.keys keysL D.rows rowsL obKeys addKeys reach pos D.ren renL Ob.ren inM outM inObs outObs goneK apartN okNames_eq okNms obNms namesOK_nil namesOK_cons freeOK_nil freeOK_cons D.frz frzL Ob.frz frzO St.frz forgetLs dropObs putObs hcall freeOf keeps baseN shD isShift shMax k_bad VCopsG frz_nil actx actc cnum vwCut St.frzT St.opnT St.clsT D.opn opnL Ob.opn opnO VCou VCcx St.oneS D.objI D.objK scrL D.scr St.opnS St.clsS D.cellS D.fzs fzsL k_mrk k_mrq IOper.gh
set_option maxRecDepth 100000 in
set_option maxHeartbeats 16000000 in
theorem v_answered (h2 : T.sp n_coord_work_reply = some sp_reply) (h3 : T.sp n_coord_work_end = some sp_end) : Verified T ir_coord_work_answered sp_answered := by
  refine Verified.mkx rfl ?_
  rintro ds ob ⟨h, ⟨next, su, co, js, ms, rs, rp⟩, av, rfl, rfl, i, m, wr, rfl, hi, hj, hS, hl, hm1, hm2, hm3⟩ R hR
  rw [hsW_F] at hR
  have hml : msgL (msgC m) = m := rfl
  simp only [fAns, hml, Int.toNat_natCast] at hR hi hj hS hl hm1 hm2 hm3
  have x2 : sp_reply.hx = some hs_reply := rfl
  have x3 : sp_end.hx = some hs_end := rfl
  have hi1 : (i : Int) < js.length := by omega
  have hS0 : ¬ h.S = 0 := by omega
  have hel := elem_jbS hi
  have hst := fun j => (List.map_set (f := jbS) (l := js) (i := i) (a := j)).symm
  have hse := fun e => set_jbS (e := e) hi
  rw [← jAt_eq hi] at hse
  obtain ⟨j1, j2, j3⟩ := hj
  generalize jAt js i = j at hel j1 j2 j3 hse hR
  obtain ⟨a1, a2, a3, a4, a5, a6⟩ := j
  obtain ⟨m1, m2, m3, m4, m5, m6, m7, m8, m9, m10, m11, m12⟩ := m
  simp only [ansW, cmS, ansOk, ansT, tkLast] at hR
  simp only at j1 j2 j3
  simp only [jbS] at hel hse
  have hse' := hse _ rfl
  by_cases c0 : a3.length = 0
  · have c0' : a3 = [] := List.eq_nil_of_length_eq_zero c0
    subst c0'
    simp only [List.length_nil, Nat.lt_irrefl, false_and, if_false] at hR
    simp only [List.map_nil] at hel hse'
    simp only [wRW, wIW, wI, wR, w5, w7, wb, msgC] at hR ⊢
    simp (implicitDefEqProofs := false) (maxSteps := 10000000) [ir_coord_work_answered, hi, hi1, hel, hse']
    exact ⟨by simp only [inR]; omega, hR _ [(0, some 1000000001), (1, some 1000000002), (2, some 1000000003), (3, some 1000000004)] (by simp (implicitDefEqProofs := false) (maxSteps := 10000000))⟩
  · have hk : a3.length - 1 < a3.length := by omega
    have hkc : (a3.length : Int) - 1 = ((a3.length - 1 : Nat) : Int) := by omega
    have hke := elem_map tkC a3 (a3.length - 1) hk
    have hkg : a3.getD (a3.length - 1) tk0 = a3[a3.length - 1] := by simp [List.getD, hk]
    have hkr : inR .i64 (((a3.length - 1 : Nat) : Int)) := by simp only [inR]; omega
    have hk1 : (((a3.length - 1 : Nat) : Int)) < (a3.length : Int) := by omega
    have hse3 := fun x => elem_set_eq (es := a3.map tkC) (i := a3.length - 1) (x := x) (by simpa using hk)
    have hpos : 0 < a3.length := by omega
    simp only [hkg] at hR
    generalize a3[a3.length - 1] = t at hke hR
    obtain ⟨t1, t2, t3, t4, t5, t6, t7, t8⟩ := t
    simp only [tkC] at hke hR
    generalize a3.length - 1 = k at hk hkc hke hkr hk1 hse3 hR
    simp only [hpos, true_and] at hR
    have hk0 : ¬ ((k : Nat) : Int) < 0 := by omega
    have f2 := fun kd => reply_F kd a1 m7 m8 m12 h next su co (.rwh 6 (js.map jbS) i [.int .i64 a1, .int .i64 a2, .row 1000000005, .row 1000000006, .int .i64 a5, .int .i64 a6]) ms rs rp [(1000000005, .row 8 (a3.map tkC)), (1000000006, .row 1 (a4.map ic))]
    have p2 := fun kd => reply_pre kd a1 m7 m8 m12 h next su co ms rs (rp := rp) (Jst.opened (js.map jbS) i a1 a2 a5 a6 (a3.map tkC) (a4.map ic)) (by omega)
    cases wr
    · have hset : (js.map jbS).set i [.int .i64 a1, .int .i64 a2, .sub 8 ((a3.map tkC).set k [.bool t1, .int .i64 t2, .int .i64 t3, .int .i64 m8, .int .i64 m9, .int .i64 t6, .bool true, .bool t8]), .sub 1 (a4.map ic), .int .i64 a5, .int .i64 0] = (js.set i ⟨a1, a2, a3.set k ⟨t1, t2, t3, m8, m9, t6, true, t8⟩, a4, a5, 0⟩).map jbS := by
        rw [List.map_set]; simp only [jbS, List.map_set, tkC]
      have hset2 : (js.map jbS).set i [.int .i64 a1, .int .i64 a2, .sub 8 ((a3.map tkC).take k), .sub 1 (a4.map ic), .int .i64 a5, .int .i64 0] = (js.set i ⟨a1, a2, a3.take k, a4, a5, 0⟩).map jbS := by
        rw [List.map_set]; simp only [jbS, List.map_take]
      simp only [Bool.false_eq_true, if_false, eq_self_iff_true] at hR
      generalize hJ : js.set i ⟨a1, a2, a3.set k ⟨t1, t2, t3, m8, m9, t6, true, t8⟩, a4, a5, 0⟩ = J at hset hR
      generalize hJ2 : js.set i ⟨a1, a2, a3.take k, a4, a5, 0⟩ = J2 at hset2 hR
      simp only [wRW, wIW, wI, wR, w5, w7, wb, msgC] at f2 p2 hR ⊢
      simp (implicitDefEqProofs := false) (maxSteps := 10000000) [-List.map_take, ir_coord_work_answered, hi, hi1, hel, hse', hkc, hk, hk0, hk1, hke, hkr, hS0, h2, x2, f2, p2, hse3, List.set_set, hset, hset2]
      refine ⟨fun hno => ?_, fun q1 q2 q3 q4 q5 q6 => ⟨fun e0 => ⟨by omega, ?_⟩, fun e0 => ?_⟩⟩
      · have c00 : ¬ (t7 = false ∧ t6 = m10 ∧ t1 = false ∧ t3 = m7 ∧ (True → t2 = m6) ∧ m2 = t3.tmod h.S) := by
          rintro ⟨a, b, c, d, e, f⟩
          rcases hno with ((((hh | hh) | hh) | hh) | hh) | hh
          · rw [a] at hh; cases hh
          · exact hh b
          · rw [c] at hh; cases hh
          · exact hh d
          · exact hh (e trivial)
          · exact hh f
        simp only [if_neg c00] at hR
        exact hR _ [(0, some 1000000001), (1, some 1000000002), (2, some 1000000003), (3, some 1000000004)] (by simp (implicitDefEqProofs := false) (maxSteps := 10000000))
      · have c00 : t7 = false ∧ t6 = m10 ∧ t1 = false ∧ t3 = m7 ∧ (True → t2 = m6) ∧ m2 = t3.tmod h.S := ⟨q1, q2, q3, q4, fun _ => q5, q6⟩
        simp only [if_pos c00, if_neg e0] at hR
        exact hR _ [(0, some 1000000001), (1, some 1000000002), (2, some 1000000003), (3, some 1060000)] (by simp (implicitDefEqProofs := false) (maxSteps := 10000000))
      · have c00 : t7 = false ∧ t6 = m10 ∧ t1 = false ∧ t3 = m7 ∧ (True → t2 = m6) ∧ m2 = t3.tmod h.S := ⟨q1, q2, q3, q4, fun _ => q5, q6⟩
        simp only [if_pos c00, if_pos e0] at hR
        exact hR _ [(0, some 1000000001), (1, some 1000000002), (2, some 1000000003), (3, some 1060000)] (by simp (implicitDefEqProofs := false) (maxSteps := 10000000))
    · have hset := hst ⟨a1, a2, a3, a4, a5, 0⟩
      have hset3 : (js.map jbS).set i [.int .i64 a1, .int .i64 a2, .sub 8 ((a3.map tkC).set k [.bool t1, .int .i64 t2, .int .i64 t3, .int .i64 t4, .int .i64 t5, .int .i64 t6, .bool true, .bool t8]), .sub 1 (a4.map ic), .int .i64 a5, .int .i64 0] = (js.set i ⟨a1, a2, a3.set k ⟨t1, t2, t3, t4, t5, t6, true, t8⟩, a4, a5, 0⟩).map jbS := by
        rw [List.map_set]; simp only [jbS, List.map_set, tkC]
      have hJl : (js.set i ⟨a1, a2, a3, a4, a5, 0⟩).length = js.length := by simp
      have hJa : jAt (js.set i ⟨a1, a2, a3, a4, a5, 0⟩) i = ⟨a1, a2, a3, a4, a5, 0⟩ := by simp [jAt, hi]
      have hJd := delE_set js i ⟨a1, a2, a3, a4, a5, 0⟩
      simp only [if_true] at hR
      generalize js.set i ⟨a1, a2, a3, a4, a5, 0⟩ = J at hset hJl hJa hJd
      generalize hJ3 : js.set i ⟨a1, a2, a3.set k ⟨t1, t2, t3, t4, t5, t6, true, t8⟩, a4, a5, 0⟩ = J3 at hset3 hR
      have f3 := end_F (i := i) h next su co (js := J) ms rs (rp ++ [rpC ⟨h.me, 3, a1, m7, m8, m12⟩]) (by omega)
      have p3 := end_pre (i := i) h next su co (js := J) (ms := ms) rs (rp ++ [rpC ⟨h.me, 3, a1, m7, m8, m12⟩]) (by omega) (by omega) (by rw [hJa]; exact ⟨j1, j2, j3⟩) hS (by omega)
      simp only [hJa, hJd] at f3
      simp only [jbS] at hset
      simp only [wRW, wIW, wI, wR, w5, w7, wb, msgC] at f2 p2 f3 p3 hR ⊢
      simp (implicitDefEqProofs := false) (maxSteps := 10000000) [ir_coord_work_answered, hi, hi1, hel, hse', hkc, hk, hk0, hk1, hke, hkr, hS0, h2, x2, f2, p2, hse3, List.set_set, h3, x3, f3, p3, hset, hset3]
      refine ⟨fun hno => ?_, fun q1 q2 q3 q4 q6 => ⟨fun e0 => ?_, fun e0 => ⟨fun e1 => absurd e0 e1, fun _ => ?_⟩⟩⟩
      · have c00 : ¬ (t7 = false ∧ t6 = m10 ∧ t1 = true ∧ t3 = m7 ∧ ((true : Bool) = false → t2 = m6) ∧ m2 = t3.tmod h.S) := by
          rintro ⟨a, b, c, d, e, f⟩
          rcases hno with (((hh | hh) | hh) | hh) | hh
          · rw [a] at hh; cases hh
          · exact hh b
          · rw [c] at hh; cases hh
          · exact hh d
          · exact hh f
        simp only [if_neg c00] at hR
        exact hR _ [(0, some 1000000001), (1, some 1000000002), (2, some 1000000003), (3, some 1000000004)] (by simp (implicitDefEqProofs := false) (maxSteps := 10000000))
      · have c00 : t7 = false ∧ t6 = m10 ∧ t1 = true ∧ t3 = m7 ∧ ((true : Bool) = false → t2 = m6) ∧ m2 = t3.tmod h.S := ⟨q1, q2, q3, q4, fun hh => absurd hh (by decide), q6⟩
        simp only [if_pos c00, if_neg e0] at hR
        exact hR _ [(0, some 1190000), (1, some 1190001), (2, some 1000000003), (3, some 1060000)] (by simp (implicitDefEqProofs := false) (maxSteps := 10000000))
      · have c00 : t7 = false ∧ t6 = m10 ∧ t1 = true ∧ t3 = m7 ∧ ((true : Bool) = false → t2 = m6) ∧ m2 = t3.tmod h.S := ⟨q1, q2, q3, q4, fun hh => absurd hh (by decide), q6⟩
        simp only [if_pos c00, if_pos e0] at hR
        exact hR _ [(0, some 1000000001), (1, some 1000000002), (2, some 1000000003), (3, some 1060000)] (by simp (implicitDefEqProofs := false) (maxSteps := 10000000))
end
end Go.Proofs.YtchbnpjegacobaaDoor
