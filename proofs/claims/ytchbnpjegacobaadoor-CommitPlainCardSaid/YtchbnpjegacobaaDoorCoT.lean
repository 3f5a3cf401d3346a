/-
  A message to a coordinator: what it does. Conditions: those of each specification's 'pre', and that the functions that are called are what theirs say.
-/
import Derived.Test.YtchbnpjegacobaaDoorCoS
set_option linter.unusedVariables false
set_option linter.unusedSimpArgs false
namespace Go.Proofs.YtchbnpjegacobaaDoor
open Go Go.Vcg

noncomputable def hearE (h : Hd) (next : Int) (js : List Jb) (m : Ms) : Int :=
  if begE h next js ≠ 0 then begE h next js else if chkM h.S h.ls h.P m ≠ 0 then chkM h.S h.ls h.P m else if m.to ≠ h.me ∨ m.site ≠ h.me then 2 else if m.kind < 5 then 3 else 0
noncomputable def hearP (h : Hd) (w : Wd) (i : Nat) (m : Ms) : Wd :=
  if m.kind = 5 then ansW h w i (jAt w.js i) m false else if m.kind = 6 then ansW h w i (jAt w.js i) m true else if m.kind = 7 then sureW h w i (jAt w.js i) m else ackW h w i m
noncomputable def hearW (h : Hd) (w : Wd) (m : Ms) (p : Int) : Wd :=
  if m.kind = 9 then askdW h w p m else if p < 0 then w else hearP h w p.toNat m
/-- A message: what the turn says, and the code. -/
noncomputable def hearT (h : Hd) (next : Int) (js : List Jb) (m : Ms) : Wd × Int :=
  if hearE h next js m = 0 then (hearW h (wdN next js) m (placeJ js m.n), 0) else (wd0, hearE h next js m)
noncomputable def sp_Hear : Sp := {
  pre := fun ds => ∃ (h : Hd) (next : Int) (js : List Jb) (m : Ms), ds = [cfgD h.S h.ls h.P, .int .i64 h.l, .int .i64 h.me, .agg (dkC next js), .agg (msgC m)] ∧ js.length ≤ 1000 ∧ ∀ j ∈ js, fewJ j
  F := fun
    | [c, .int _ l, .int _ me, .agg [.int _ next, js], .agg m] => .tup [.agg (trnC (hearT ⟨(cfgOf c).1, (cfgOf c).2.1, (cfgOf c).2.2, l, me⟩ next (lsOf jbOf js) (msgL m)).1), .int .i64 (hearT ⟨(cfgOf c).1, (cfgOf c).2.1, (cfgOf c).2.2, l, me⟩ next (lsOf jbOf js) (msgL m)).2]
    | _ => .any }
theorem hear_F (h : Hd) (next : Int) (js : List Jb) (m : Ms) : sp_Hear.F [cfgD h.S h.ls h.P, .int .i64 h.l, .int .i64 h.me, .agg (dkC next js), .agg (msgC m)] = .tup [.agg (trnC (hearT h next js m).1), .int .i64 (hearT h next js m).2] := by
  have e : msgL (msgC m) = m := rfl
  simp only [sp_Hear, dkC, cfgOf_cfgD, jbs_of, e]
theorem hear_pre (h : Hd) (next : Int) {js : List Jb} (m : Ms) (hl : js.length ≤ 1000) (hf : ∀ j ∈ js, fewJ j) : sp_Hear.pre [cfgD h.S h.ls h.P, .int .i64 h.l, .int .i64 h.me, .agg (dkC next js), .agg (msgC m)] = True := by
  simp only [sp_Hear, eq_iff_iff, iff_true]; exact ⟨h, next, js, m, rfl, hl, hf⟩
theorem cmC_F (S : Int) (ls : List (Int × Int)) (P : Int) (m : Ms) : sp_CheckMessage.F [cfgD S ls P, .agg (msgC m)] = .int .i64 (chkM S ls P m) := by
  have e2 : msgOf (.agg (msgC m)) = m := rfl
  simp only [sp_CheckMessage, cfgOf_cfgD, e2]
theorem cmC_pre (S : Int) (ls : List (Int × Int)) (P : Int) (m : Ms) : sp_CheckMessage.pre [cfgD S ls P, .agg (msgC m)] = True := by
  simp only [sp_CheckMessage, eq_iff_iff, iff_true]; exact ⟨_, _, rfl, isCfg_mk S ls P, rfl⟩

section
variable {T : Tb}
attribute [local simp] k_seq k_block k_skip k_reg k_alt k_cond k_exit k_ret kf_nil kf_seq_n kf_seq_e kf_seq_r kf_blk_n kf_blk_e kf_blk_r kf_lp_n kf_lp_e kf_lp_r kf_cut_n kf_cut_e kf_cut_r mkTm VCops VCalt istep act gd applyE wrapD Opd.ev get_mk set_mk set_mk0 tget16 tset16 tget_0 tset_0 tget_1 tset_1 tget_2 tset_2 tget_3 tset_3 tget_4 tset_4 tget_5 tset_5 tget_6 tset_6 tget_7 tset_7 tget_8 tset_8 tget_9 tset_9 tget_10 tset_10 tget_11 tset_11 tget_12 tset_12 tget_13 tset_13 tget_14 tset_14 tget_15 tset_15 D.un D.gu gus IOp.opds binD fnPost getRes IRes.get oneRes D.out outL D.clos closL D.norow norowL D.lv lvL D.scal scalL D.cells D.cell D.cell' St.lk obPut obDel List.lookup cut pickD splice fillParts fillRows elem_cons newsOf D.pl D.forget forgetL Ob.forget forgetO eqCells sg leD leDL leOb apartK St.le D.keys keysL D.rows rowsL obKeys addKeys reach pos D.ren renL Ob.ren inM outM inObs outObs goneK apartN okNames_eq okNms obNms namesOK_nil namesOK_cons freeOK_nil freeOK_cons D.frz frzL Ob.frz frzO St.frz forgetLs dropObs putObs hcall freeOf keeps baseN shD isShift shMax k_bad VCopsG frz_nil actx actc cnum vwCut St.frzT St.opnT St.clsT D.opn opnL Ob.opn opnO VCou VCcx St.oneS D.objI D.objK scrL D.scr St.opnS St.clsS D.cellS D.fzs fzsL k_mrk k_mrq IOper.gh
set_option maxRecDepth 100000 in
set_option maxHeartbeats 16000000 in
theorem v_Hear (h1 : T.sp n_coord_begin = some sp_begin) (h2 : T.sp n_wire_CheckMessage = some sp_CheckMessage) (h3 : T.sp n_coord_work_place = some sp_place) (h4 : T.sp n_coord_work_asked = some sp_asked) (h5 : T.sp n_coord_work_answered = some sp_answered) (h6 : T.sp n_coord_work_sure = some sp_sure) (h7 : T.sp n_coord_work_acked = some sp_acked) : Verified T ir_coord_Hear sp_Hear := by
  refine Verified.mk ?_
  rintro ds ⟨h, next, js, m, rfl, hl, hf⟩
  rw [hear_F]
  have x1 : sp_begin.hx = some hs_begin := rfl
  have x2 : sp_CheckMessage.hx = none := rfl
  have x3 : sp_place.hx = some hs_place := rfl
  have x4 : sp_asked.hx = some (hsW preAskd fAskd) := rfl
  have x5 : sp_answered.hx = some (hsW preAns fAns) := rfl
  have x6 : sp_sure.hx = some (hsW preAck fSure) := rfl
  have x7 : sp_acked.hx = some (hsW preAck fAck) := rfl
  have p1 := begin_pre h next (l := js) (by omega) hf
  simp only [hearT, hearE]
  by_cases hb : begE h next js = 0
  · have f1 := begin_F0 hb
    obtain ⟨b1, b2, b3, b4, b5, b6, b7, b8, b9⟩ := beg_ok hb
    obtain ⟨c1, c2, c3, c4, c5, c6⟩ := check_ok b1
    have hts : ∀ i : Nat, i < js.length → okTs (jAt js i) := fun i hi => okJob_ts (by omega) c2 (okJbs_at b5 hi)
    have hfew : fewW h (wdN next js) := ⟨c1, by simp only [wdN]; omega, by simp [wdN], by simp [wdN], by simp [wdN]⟩
    have f2 := cmC_F h.S h.ls h.P m
    have p2 := cmC_pre h.S h.ls h.P m
    simp only [hb, ne_eq, not_true, if_false]
    by_cases hc : chkM h.S h.ls h.P m = 0
    · simp only [hc, not_true, if_false] at f2 ⊢
      by_cases hm : m.to = h.me ∧ m.site = h.me
      · obtain ⟨hm1, hm2⟩ := hm
        by_cases hk : m.kind < 5
        · simp only [hm1, hm2, not_true, or_self, if_false, if_pos hk]
          obtain ⟨m1, m2, m3, m4, m5, m6, m7, m8, m9, m10, m11, m12⟩ := m
          simp only at hm1 hm2 hk
          subst hm1
          subst hm2
          simp only [cfgD, dkC, msgC, wb, trnC, wd0] at f1 p1 f2 p2 ⊢
          simp (implicitDefEqProofs := false) (maxSteps := 10000000) [ir_coord_Hear, h1, x1, f1, p1, h2, x2, f2, p2, hk]
        · simp only [hm1, hm2, not_true, or_self, if_false, if_neg hk, if_true]
          have f3 := place_F m.n h next 0 0 js [] [] []
          have p3 := place_pre m.n h next 0 0 (js := js) [] [] [] (by omega)
          have hpb := placeJ_b js m.n
          generalize placeJ js m.n = p at f3 hpb ⊢
          simp only [hearW]
          by_cases k9 : m.kind = 9
          · simp only [if_pos k9]
            have f4 := hsW_F preAskd fAskd h (wdN next js) [.int .i64 p, .agg (msgC m)]
            have p4 := hsW_pre fAskd (pre := preAskd) (h := h) (w := wdN next js) (av := [.int .i64 p, .agg (msgC m)]) ⟨p, m, rfl, hpb.2, fun h0 => hts _ (by omega), hfew⟩
            have hml : msgL (msgC m) = m := rfl
            simp only [fAskd, hml] at f4
            generalize askdW h (wdN next js) p m = w at f4 ⊢
            obtain ⟨m1, m2, m3, m4, m5, m6, m7, m8, m9, m10, m11, m12⟩ := m
            obtain ⟨w1, w2, w3, w4, w5', w6, w7'⟩ := w
            simp only at hm1 hm2 hk k9
            subst k9
            subst hm1
            subst hm2
            simp only [cfgD, dkC, msgC, wb, trnC, wRW, wR, wIW, wI, w5, wdN] at f1 p1 f2 p2 f3 p3 f4 p4 ⊢
            simp (implicitDefEqProofs := false) (maxSteps := 10000000) [ir_coord_Hear, h1, x1, f1, p1, h2, x2, f2, p2, h3, x3, f3, p3, h4, x4, f4, p4, outE_jbS]
          · simp only [if_neg k9]
            by_cases hp : p < 0
            · simp only [if_pos hp]
              obtain ⟨m1, m2, m3, m4, m5, m6, m7, m8, m9, m10, m11, m12⟩ := m
              simp only at hm1 hm2 hk k9
              subst hm1
              subst hm2
              simp only [cfgD, dkC, msgC, wb, trnC, wRW, wR, wIW, wI, w5, wdN] at f1 p1 f2 p2 f3 p3 ⊢
              simp (implicitDefEqProofs := false) (maxSteps := 10000000) [ir_coord_Hear, h1, x1, f1, p1, h2, x2, f2, p2, h3, x3, f3, p3, hk, k9, hp, outE_jbS]
            · simp only [if_neg hp]
              obtain ⟨i, rfl⟩ : ∃ i : Nat, p = i := ⟨p.toNat, by omega⟩
              have hi : i < js.length := by omega
              have hi0 : ¬ (i : Int) < 0 := by omega
              have hjt := hts i hi
              have hml : msgL (msgC m) = m := rfl
              have hwj : (wdN next js).js = js := rfl
              simp only [Int.toNat_natCast, hearP, hwj]
              by_cases k5 : m.kind = 5
              · simp only [if_pos k5]
                have f9 := hsW_F preAns fAns h (wdN next js) [.int .i64 i, .agg (msgC m), .bool false]
                have p9 := hsW_pre fAns (pre := preAns) (h := h) (w := wdN next js) (av := [.int .i64 i, .agg (msgC m), .bool false]) ⟨i, m, false, rfl, hi, hjt, hfew⟩
                simp only [fAns, hml, Int.toNat_natCast, hwj] at f9
                generalize ansW h (wdN next js) i (jAt js i) m false = w at f9 ⊢
                obtain ⟨m1, m2, m3, m4, m5, m6, m7, m8, m9, m10, m11, m12⟩ := m
                obtain ⟨w1, w2, w3, w4, w5', w6, w7'⟩ := w
                simp only at hm1 hm2 hk k9 k5
                subst k5
                subst hm1
                subst hm2
                simp only [cfgD, dkC, msgC, wb, trnC, wRW, wR, wIW, wI, w5, wdN] at f1 p1 f2 p2 f3 p3 f9 p9 ⊢
                simp (implicitDefEqProofs := false) (maxSteps := 10000000) [ir_coord_Hear, h1, x1, f1, p1, h2, x2, f2, p2, h3, x3, f3, p3, h5, x5, f9, p9, outE_jbS, hi0]
              · simp only [if_neg k5]
                by_cases k6 : m.kind = 6
                · simp only [if_pos k6]
                  have f9 := hsW_F preAns fAns h (wdN next js) [.int .i64 i, .agg (msgC m), .bool true]
                  have p9 := hsW_pre fAns (pre := preAns) (h := h) (w := wdN next js) (av := [.int .i64 i, .agg (msgC m), .bool true]) ⟨i, m, true, rfl, hi, hjt, hfew⟩
                  simp only [fAns, hml, Int.toNat_natCast, hwj] at f9
                  generalize ansW h (wdN next js) i (jAt js i) m true = w at f9 ⊢
                  obtain ⟨m1, m2, m3, m4, m5, m6, m7, m8, m9, m10, m11, m12⟩ := m
                  obtain ⟨w1, w2, w3, w4, w5', w6, w7'⟩ := w
                  simp only at hm1 hm2 hk k9 k5 k6
                  subst k6
                  subst hm1
                  subst hm2
                  simp only [cfgD, dkC, msgC, wb, trnC, wRW, wR, wIW, wI, w5, wdN] at f1 p1 f2 p2 f3 p3 f9 p9 ⊢
                  simp (implicitDefEqProofs := false) (maxSteps := 10000000) [ir_coord_Hear, h1, x1, f1, p1, h2, x2, f2, p2, h3, x3, f3, p3, h5, x5, f9, p9, outE_jbS, hi0]
                · simp only [if_neg k6]
                  by_cases k7 : m.kind = 7
                  · simp only [if_pos k7]
                    have f9 := hsW_F preAck fSure h (wdN next js) [.int .i64 i, .agg (msgC m)]
                    have p9 := hsW_pre fSure (pre := preAck) (h := h) (w := wdN next js) (av := [.int .i64 i, .agg (msgC m)]) ⟨i, m, rfl, hi, hjt, hfew⟩
                    simp only [fSure, hml, Int.toNat_natCast, hwj] at f9
                    generalize sureW h (wdN next js) i (jAt js i) m = w at f9 ⊢
                    obtain ⟨m1, m2, m3, m4, m5, m6, m7, m8, m9, m10, m11, m12⟩ := m
                    obtain ⟨w1, w2, w3, w4, w5', w6, w7'⟩ := w
                    simp only at hm1 hm2 hk k9 k5 k6 k7
                    subst k7
                    subst hm1
                    subst hm2
                    simp only [cfgD, dkC, msgC, wb, trnC, wRW, wR, wIW, wI, w5, wdN] at f1 p1 f2 p2 f3 p3 f9 p9 ⊢
                    simp (implicitDefEqProofs := false) (maxSteps := 10000000) [ir_coord_Hear, h1, x1, f1, p1, h2, x2, f2, p2, h3, x3, f3, p3, h6, x6, f9, p9, outE_jbS, hi0]
                  · simp only [if_neg k7]
                    have f9 := hsW_F preAck fAck h (wdN next js) [.int .i64 i, .agg (msgC m)]
                    have p9 := hsW_pre fAck (pre := preAck) (h := h) (w := wdN next js) (av := [.int .i64 i, .agg (msgC m)]) ⟨i, m, rfl, hi, hjt, hfew⟩
                    simp only [fAck, hml, Int.toNat_natCast, hwj] at f9
                    generalize ackW h (wdN next js) i m = w at f9 ⊢
                    obtain ⟨m1, m2, m3, m4, m5, m6, m7, m8, m9, m10, m11, m12⟩ := m
                    obtain ⟨w1, w2, w3, w4, w5', w6, w7'⟩ := w
                    simp only at hm1 hm2 hk k9 k5 k6 k7
                    subst hm1
                    subst hm2
                    simp only [cfgD, dkC, msgC, wb, trnC, wRW, wR, wIW, wI, w5, wdN] at f1 p1 f2 p2 f3 p3 f9 p9 ⊢
                    simp (implicitDefEqProofs := false) (maxSteps := 10000000) [ir_coord_Hear, h1, x1, f1, p1, h2, x2, f2, p2, h3, x3, f3, p3, h7, x7, f9, p9, outE_jbS, hi0, hk, k9, k5, k6, k7]
      · have hm' : m.to ≠ h.me ∨ m.site ≠ h.me := by
          by_cases e : m.to = h.me
          · exact Or.inr fun e2 => hm ⟨e, e2⟩
          · exact Or.inl e
        simp only [ne_eq] at hm'
        simp only [if_pos hm', (by decide : ¬ ((2 : Int) = 0)), if_false]
        obtain ⟨m1, m2, m3, m4, m5, m6, m7, m8, m9, m10, m11, m12⟩ := m
        simp only at hm'
        simp only [cfgD, dkC, msgC, wb, trnC, wd0] at f1 p1 f2 p2 ⊢
        by_cases e : m3 = h.me
        · have e2 : ¬ m4 = h.me := fun q => hm' |>.elim (fun z => z e) (fun z => z q)
          subst e
          simp (implicitDefEqProofs := false) (maxSteps := 10000000) [ir_coord_Hear, h1, x1, f1, p1, h2, x2, f2, p2, e2]
        · simp (implicitDefEqProofs := false) (maxSteps := 10000000) [ir_coord_Hear, h1, x1, f1, p1, h2, x2, f2, p2, e]
    · simp only [hc, not_false_iff, if_true, if_false]
      generalize chkM h.S h.ls h.P m = e at hc f2 ⊢
      simp only [cfgD, dkC, msgC, wb, trnC, wd0] at f1 p1 f2 p2 ⊢
      simp (implicitDefEqProofs := false) (maxSteps := 10000000) [ir_coord_Hear, h1, x1, f1, p1, h2, x2, f2, p2, hc]
  · have f1 := begin_F1 hb
    simp only [ne_eq, hb, not_false_iff, if_true, if_false]
    generalize begE h next js = e at hb f1 ⊢
    simp only [cfgD, dkC, msgC, wb, trnC, wd0] at f1 p1 ⊢
    simp (implicitDefEqProofs := false) (maxSteps := 10000000) [ir_coord_Hear, h1, x1, f1, p1, hb]
end
end Go.Proofs.YtchbnpjegacobaaDoor
