/-
  Turns at a coordinator: what was read is as it was, or not. Conditions: those of each specification's 'pre', and that the functions that are called are what theirs say.
-/
import Derived.Test.YtchbnpjegacobaaDoorCoO
set_option linter.unusedVariables false
set_option linter.unusedSimpArgs false
namespace Go.Proofs.YtchbnpjegacobaaDoor
open Go Go.Vcg

def surK (m : Ms) (ts : List Tk) (k : Nat) : List Tk := (ts.take k).map (surT m) ++ ts.drop k
theorem surK_zero (m : Ms) (ts : List Tk) : surK m ts 0 = ts := by simp [surK]
theorem surK_all (m : Ms) (ts : List Tk) : surK m ts ts.length = ts.map (surT m) := by simp [surK]
theorem surK_len (m : Ms) (ts : List Tk) {k : Nat} (h : k ≤ ts.length) : (surK m ts k).length = ts.length := by
  simp only [surK, List.length_append, List.length_map, List.length_take, List.length_drop]; omega
theorem surK_elem (m : Ms) (ts : List Tk) {k : Nat} (h : k < ts.length) : elem ((surK m ts k).map tkC) k = tkC ts[k] := by
  have hl : k < (surK m ts k).length := by rw [surK_len m ts (by omega)]; exact h
  rw [elem_map tkC _ k hl]
  congr 1
  simp only [surK]
  rw [List.getElem_append_right (by simp only [List.length_map, List.length_take]; omega)]
  simp only [List.length_map, List.length_take, List.getElem_drop]
  congr 1
  omega
theorem surK_succ (m : Ms) (ts : List Tk) {k : Nat} (h : k < ts.length) : (surK m ts k).set k (surT m ts[k]) = surK m ts (k + 1) := by
  simp only [surK]
  have hl : ((ts.take k).map (surT m)).length = k := by simp; omega
  rw [List.set_append_right _ _ (by omega), hl, Nat.sub_self, ← List.take_append_getElem h, List.map_append, List.append_assoc]
  congr 1
  rw [List.drop_eq_getElem_cons h]
  rfl
theorem surK_same (m : Ms) (ts : List Tk) {k : Nat} (h : k < ts.length) (hb : surT m ts[k] = ts[k]) : surK m ts (k + 1) = surK m ts k := by
  simp only [surK]
  rw [← List.take_append_getElem h, List.map_append, List.append_assoc]
  congr 1
  rw [List.drop_eq_getElem_cons h]
  simp [hb]

section
variable {T : Tb}
attribute [local simp] k_seq k_block k_skip k_reg k_alt k_cond k_exit k_ret kf_nil kf_seq_n kf_seq_e kf_seq_r kf_blk_n kf_blk_e kf_blk_r kf_lp_n kf_lp_e kf_lp_r kf_cut_n kf_cut_e kf_cut_r mkTm VCops VCalt istep act gd applyE wrapD Opd.ev get_mk set_mk set_mk0 tget16 tset16 tget_0 tset_0 tget_1 tset_1 tget_2 tset_2 tget_3 tset_3 tget_4 tset_4 tget_5 tset_5 tget_6 tset_6 tget_7 tset_7 tget_8 tset_8 tget_9 tset_9 tget_10 tset_10 tget_11 tset_11 tget_12 tset_12 tget_13 tset_13 tget_14 tset_14 tget_15 tset_15 D.un D.gu gus IOp.opds binD fnPost getRes IRes.get oneRes D.out outL D.clos closL D.norow norowL D.lv lvL D.scal scalL D.cells D.cell D.cell' St.lk obPut obDel List.lookup cut pickD splice fillParts fillRows elem_cons newsOf D.pl D.forget forgetL Ob.forget forgetO eqCells sg leD leDL leOb apartK St.le D.keys keysL D.rows rowsL obKeys addKeys reach pos D.ren renL Ob.ren inM outM inObs outObs goneK apartN okNames_eq okNms obNms namesOK_nil namesOK_cons freeOK_nil freeOK_cons D.frz frzL Ob.frz frzO St.frz forgetLs dropObs putObs hcall freeOf keeps baseN shD isShift shMax k_bad VCopsG frz_nil actx actc cnum vwCut St.frzT St.opnT St.clsT D.opn opnL Ob.opn opnO VCou VCcx St.oneS D.objI D.objK scrL D.scr St.opnS St.clsS D.cellS D.fzs fzsL k_mrk k_mrq IOper.gh
set_option maxRecDepth 100000 in
set_option maxHeartbeats 16000000 in
theorem v_sure (h1 : T.sp n_coord_work_commit = some sp_commit) (h2 : T.sp n_coord_work_reply = some sp_reply) (h3 : T.sp n_coord_work_end = some sp_end) : Verified T ir_coord_work_sure sp_sure := by
  refine Verified.mkx rfl ?_
  rintro ds ob ⟨h, ⟨next, su, co, js, ms, rs, rp⟩, av, rfl, rfl, i, m, rfl, hi, hj, hS, hl, hm1, hm2, hm3⟩ R hR
  rw [hsW_F] at hR
  have hml : msgL (msgC m) = m := rfl
  simp only [fSure, hml, Int.toNat_natCast] at hR hi hj hS hl hm1 hm2 hm3
  have x1 : sp_commit.hx = some hs_commit := rfl
  have x2 : sp_reply.hx = some hs_reply := rfl
  have x3 : sp_end.hx = some hs_end := rfl
  have hi1 : (i : Int) < js.length := by omega
  have hS0 : ¬ h.S = 0 := by omega
  have hel := elem_jbS hi
  obtain ⟨j1, j2, j3⟩ := hj
  generalize jAt js i = j at hel j1 j2 j3 hR
  obtain ⟨a1, a2, a3, a4, a5, a6⟩ := j
  simp only [sureW] at hR
  simp only at j1 j2 j3
  simp only [jbS] at hel
  by_cases c1 : a2 = 2 ∧ m.frm = m.key.tmod h.S
  · simp only [if_pos c1] at hR
    obtain ⟨rfl, c2⟩ := c1
    have hset : (js.map jbS).set i [.int .i64 a1, .int .i64 2, .sub 8 ((a3.map (surT m)).map tkC), .sub 1 (a4.map ic), .int .i64 a5, .int .i64 a6] = (js.set i (surJ ⟨a1, 2, a3, a4, a5, a6⟩ m)).map jbS := by
      rw [List.map_set]; rfl
    have hJl : (js.set i (surJ ⟨a1, 2, a3, a4, a5, a6⟩ m)).length = js.length := by simp
    have hJa : jAt (js.set i (surJ ⟨a1, 2, a3, a4, a5, a6⟩ m)) i = surJ ⟨a1, 2, a3, a4, a5, a6⟩ m := by simp [jAt, hi]
    have hJe : elem ((js.set i (surJ ⟨a1, 2, a3, a4, a5, a6⟩ m)).map jbS) i = jbS (surJ ⟨a1, 2, a3, a4, a5, a6⟩ m) := by rw [List.map_set, elem_set_eq (by simpa using hi)]
    have hJk : okTs (surJ ⟨a1, 2, a3, a4, a5, a6⟩ m) := by
      refine ⟨by simp only [surJ, List.length_map]; exact j1, j2, ?_⟩
      intro t ht
      simp only [surJ] at ht
      obtain ⟨u, hu, rfl⟩ := List.mem_map.1 ht
      have := j3 u hu
      unfold surT
      split
      · exact this
      · exact this
    generalize hJ : js.set i (surJ ⟨a1, 2, a3, a4, a5, a6⟩ m) = J at hset hJl hJa hJe hR
    simp only [surJ] at hJa hJk hJe hR
    simp only [jbS] at hJe
    simp only [wRW, wIW, wI, wR, w5, wb, msgC] at hR ⊢
    have c2' : (m.key.tmod h.S = m.frm) = True := eq_true c2.symm
    have c2t : (m.frm = m.key.tmod h.S) = True := eq_true c2
    simp (implicitDefEqProofs := false) (maxSteps := 10000000) [ir_coord_work_sure, hi, hi1, hel, hS0, c2t, c2']
    refine k_loop (ι := {k : Nat // k ≤ a3.length}) (fun x => ⟨mkTm 132 0 [(0, .own 1000000000 0), (1, .int .i64 i), (5, .own 5 0), (6, .elr 1000000001 6 i 0), (7, .bool ((a3.take x.1).any (surB m))), (8, .bool (((a3.take x.1).map (surT m)).any agnB)), (41, .int .i64 a3.length), (42, .int .i64 x.1)], [(1000000000, wb h next 1000000001 1000000002 1000000003 1000000004 su co), (1000000001, .rwh 6 (js.map jbS) i [.int .i64 a1, .int .i64 2, .row 900, .row 901, .int .i64 a5, .int .i64 a6]), (1000000002, .row 12 ms), (1000000003, .row 8 rs), (1000000004, .row 6 rp), (5, .box (msgC m)), (900, .row 8 ((surK m a3 x.1).map tkC)), (901, .row 1 (a4.map ic))]⟩)
      (fun x => a3.length - x.1) [] ⟨0, by omega⟩ (by simp (implicitDefEqProofs := false) (maxSteps := 10000000) [wb, surK_zero, msgC]) ?_
    rintro ⟨k, hk⟩ P hP
    simp only [wb, msgC] at hP ⊢
    rcases Nat.lt_or_ge k a3.length with hlt | hge
    · have hk1 : (k : Int) < a3.length := by omega
      have e1 := surK_elem m a3 hlt
      have e2 : ∀ e, e = tkC (surT m a3[k]) → ((surK m a3 k).map tkC).set k e = (surK m a3 (k + 1)).map tkC := by
        rintro e rfl
        rw [← surK_succ m a3 hlt, List.map_set]
      have e3 := fun x => elem_set_eq (es := (surK m a3 k).map tkC) (i := k) (x := x) (by simp only [List.length_map, surK_len m a3 hk]; exact hlt)
      have e4 := surK_same m a3 hlt
      have e5 : ((surK m a3 k).map tkC).length = a3.length := by rw [List.length_map, surK_len m a3 hk]
      have hany : (a3.take (k + 1)).any (surB m) = ((a3.take k).any (surB m) || surB m a3[k]) := by
        rw [← List.take_append_getElem hlt, List.any_append]; simp
      have hany2 : ((a3.take (k + 1)).map (surT m)).any agnB = (((a3.take k).map (surT m)).any agnB || agnB (surT m a3[k])) := by
        rw [← List.take_append_getElem hlt, List.map_append, List.any_append]; simp
      generalize (a3.take k).any (surB m) = B1 at hany ⊢
      generalize ((a3.take k).map (surT m)).any agnB = B2 at hany2 ⊢
      generalize a3[k] = t at e1 e2 e4 hany hany2
      have hns : surB m t = false → (surK m a3 (k + 1)).map tkC = (surK m a3 k).map tkC := fun hb => by rw [e4 (by simp only [surT, hb, Bool.false_eq_true, if_false])]
      generalize (surK m a3 k).map tkC = C at e1 e2 e3 e5 hns ⊢
      obtain ⟨t1, t2, t3, t4, t5, t6, t7, t8⟩ := t
      simp only [tkC] at e1
      simp (implicitDefEqProofs := false) (maxSteps := 10000000) [ir_coord_work_sure_b0, hk1, hlt, e1, e5, e3]
      refine ⟨fun g1 g2 g3 g4 => ?_, fun g0 => ?_⟩
      · have hb : surB m ⟨t1, t2, t3, t4, t5, t6, t7, t8⟩ = true := by simp [surB, g1, g2, g3, g4]
        have hT : surT m ⟨t1, t2, t3, t4, t5, t6, t7, t8⟩ = ⟨t1, t2, t3, t4, t5, t6, t7, t8 || m.yes⟩ := by simp only [surT, if_pos hb]
        rw [hT] at e2 hany2
        simp only [hb, Bool.or_true] at hany
        have e2' := e2 _ rfl
        simp only [tkC, agnB] at e2' hany2
        refine ⟨fun u1 => ⟨u1, fun u2 => ⟨u1, u2⟩⟩, by simp only [inR]; omega, hP _ [] ⟨k + 1, by omega⟩ ?_ (by simp only; omega)⟩
        simp (implicitDefEqProofs := false) (maxSteps := 10000000) [-List.map_take, hany, hany2, ← e2']
      · have hb : surB m ⟨t1, t2, t3, t4, t5, t6, t7, t8⟩ = false := by
          simp only [surB, Bool.and_eq_false_iff, Bool.not_eq_false', decide_eq_false_iff_not]
          cases t1
          · by_cases u2 : t2 = m.label
            · by_cases u3 : t3 = m.key
              · exact Or.inr (g0 rfl u2 u3)
              · exact Or.inl (Or.inr u3)
            · exact Or.inl (Or.inl (Or.inr u2))
          · exact Or.inl (Or.inl (Or.inl rfl))
        have hT : surT m ⟨t1, t2, t3, t4, t5, t6, t7, t8⟩ = ⟨t1, t2, t3, t4, t5, t6, t7, t8⟩ := by simp only [surT, hb, Bool.false_eq_true, if_false]
        rw [hT] at hany2
        simp only [hb, Bool.or_false] at hany
        simp only [agnB] at hany2
        have hC' := hns hb
        refine ⟨fun u1 => ⟨u1, fun u2 => ⟨u1, u2⟩⟩, by simp only [inR]; omega, hP _ [] ⟨k + 1, by omega⟩ ?_ (by simp only; omega)⟩
        simp (implicitDefEqProofs := false) (maxSteps := 10000000) [-List.map_take, hany, hany2, hC']
    · have hk1 : ¬ (k : Int) < a3.length := by omega
      obtain rfl : k = a3.length := by omega
      simp only [surK_all, List.take_length] at hP ⊢
      clear hP
      have hlen : ((a3.map (surT m)).map tkC).length = a3.length := by simp
      cases hb : a3.any (surB m)
      · simp only [hb, Bool.false_eq_true, if_false] at hR
        generalize (a3.map (surT m)).map tkC = C at hset hlen hJe ⊢
        generalize (a3.map (surT m)).any agnB = B2
        simp (implicitDefEqProofs := false) (maxSteps := 10000000) [ir_coord_work_sure_b0, ir_coord_work_sure_r1, hk1, hlen, hset]
        exact hR _ [(0, some 1000000001), (1, some 1000000002), (2, some 1000000003), (3, some 1000000004)] (by simp (implicitDefEqProofs := false) (maxSteps := 10000000))
      · simp only [hb, if_true] at hR
        cases hy : m.yes
        · simp only [hy, Bool.false_eq_true, if_false, endW, hJa, cmS] at hR
          have f2 := reply_F 4 a1 0 0 11 h next su co (.rws 6 (J.map jbS)) ms rs rp []
          have p2 := reply_pre 4 a1 0 0 11 h next su co ms rs (rp := rp) (Jst.shut (J.map jbS)) (by omega)
          have f3 := end_F (i := i) h next su co (js := J) ms rs (rp ++ [rpC ⟨h.me, 4, a1, 0, 0, 11⟩]) (by omega)
          have p3 := end_pre (i := i) h next su co (js := J) (ms := ms) rs (rp ++ [rpC ⟨h.me, 4, a1, 0, 0, 11⟩]) (by omega) (by omega) (by rw [hJa]; exact hJk) hS (by omega)
          simp only [hJa] at f3
          generalize (a3.map (surT m)).map tkC = C at hset hlen hJe ⊢
          generalize (a3.map (surT m)).any agnB = B2
          have hJl1 : (i : Int) < J.length := by omega
          have hJl2 : i < J.length := by omega
          simp only [wb, w5, rpC] at f2 p2 f3 p3 hR ⊢
          simp (implicitDefEqProofs := false) (maxSteps := 10000000) [ir_coord_work_sure_b0, ir_coord_work_sure_r1, hk1, hlen, hset, hy, hJl, hJe, hi, hi1, h2, x2, f2, p2, h3, x3, f3, p3]
          exact hR _ [(0, some 1260000), (1, some 1260001), (2, some 1000000003), (3, some 1230000)] (by simp (implicitDefEqProofs := false) (maxSteps := 10000000))
        · simp only [hy, if_true] at hR
          cases hb2 : (a3.map (surT m)).any agnB
          · simp only [hb2, Bool.false_eq_true, if_false, comW, hJa] at hR
            have f1 := commit_F i h next su co J ms rs rp
            have p1 := commit_pre h next su co (js := J) (ms := ms) (rs := rs) (rp := rp) (i := i) (by omega) (by omega) (by rw [hJa]; exact hJk) hS (by omega) (by omega) (by omega)
            simp only [hJa] at f1
            generalize (a3.map (surT m)).map tkC = C at hset hlen hJe ⊢
            simp only [wI, wR, wb, w5, rpC] at f1 p1 hR ⊢
            simp (implicitDefEqProofs := false) (maxSteps := 10000000) [ir_coord_work_sure_b0, ir_coord_work_sure_r1, hk1, hlen, hset, hy, h1, x1, f1, p1]
            exact hR _ [(0, some 1320000), (1, some 1320001), (2, some 1320002), (3, some 1320003)] (by simp (implicitDefEqProofs := false) (maxSteps := 10000000))
          · simp only [hb2, if_true] at hR
            generalize (a3.map (surT m)).map tkC = C at hset hlen hJe ⊢
            simp (implicitDefEqProofs := false) (maxSteps := 10000000) [ir_coord_work_sure_b0, ir_coord_work_sure_r1, hk1, hlen, hset, hy]
            exact hR _ [(0, some 1000000001), (1, some 1000000002), (2, some 1000000003), (3, some 1000000004)] (by simp (implicitDefEqProofs := false) (maxSteps := 10000000))
  · simp only [if_neg c1] at hR
    obtain ⟨m1, m2, m3, m4, m5, m6, m7, m8, m9, m10, m11, m12⟩ := m
    simp only at c1
    simp only [wRW, wIW, wI, wR, w5, wb, msgC] at hR ⊢
    by_cases c2 : a2 = 2
    · have c3 : ¬ m2 = m7.tmod h.S := fun hh => c1 ⟨c2, hh⟩
      simp (implicitDefEqProofs := false) (maxSteps := 10000000) [ir_coord_work_sure, hi, hi1, hel, hS0, c2, c3]
      exact hR _ [(0, some 1000000001), (1, some 1000000002), (2, some 1000000003), (3, some 1000000004)] (by simp (implicitDefEqProofs := false) (maxSteps := 10000000))
    · simp (implicitDefEqProofs := false) (maxSteps := 10000000) [ir_coord_work_sure, hi, hi1, hel, hS0, c2]
      exact hR _ [(0, some 1000000001), (1, some 1000000002), (2, some 1000000003), (3, some 1000000004)] (by simp (implicitDefEqProofs := false) (maxSteps := 10000000))
end
end Go.Proofs.YtchbnpjegacobaaDoor
