/-
  A client's call at a coordinator: what it does. Conditions: those of each specification's 'pre', and that the functions that are called are what theirs say.
-/
import Derived.Test.YtchbnpjegacobaaDoorCoO
set_option linter.unusedVariables false
set_option linter.unusedSimpArgs false
namespace Go.Proofs.YtchbnpjegacobaaDoor
open Go Go.Vcg

/-- What a turn says. -/
def trnC (w : Wd) : List D := [.int .i64 w.next, .fz 6 (w.js.map jbC), .fz 12 w.ms, .fz 8 w.rs, .fz 6 w.rp, .int .i64 w.su, .int .i64 w.co]
def wd0 : Wd := ⟨0, 0, 0, [], [], [], []⟩
def wdN (next : Int) (js : List Jb) : Wd := ⟨next, 0, 0, js, [], [], []⟩
noncomputable def callE (h : Hd) (next : Int) (js : List Jb) (x : Cl) : Int := if begE h next js ≠ 0 then begE h next js else if x.kind < 1 ∨ 5 < x.kind then 3 else 0
noncomputable def callP (h : Hd) (w : Wd) (i : Nat) (x : Cl) : Wd :=
  if x.kind = 2 then tskW h w i ⟨false, x.label, x.key, 0, 0, 0, false, false⟩
  else if x.kind = 3 then tskW h w i ⟨true, h.l, x.key, x.value, 0, 0, false, false⟩
  else if x.kind = 4 then cgW h w i
  else ⟨(endW h w i).next, (endW h w i).su, (endW h w i).co, (endW h w i).js, (endW h w i).ms, (endW h w i).rs, (endW h w i).rp ++ [rpC ⟨h.me, 5, x.n, 0, 0, 0⟩]⟩
def refW (h : Hd) (w : Wd) (x : Cl) (e : Int) : Wd := ⟨w.next, w.su, w.co, w.js, w.ms, w.rs, w.rp ++ [rpC ⟨h.me, x.kind, x.n, x.key, 0, e⟩]⟩
noncomputable def callW (h : Hd) (w : Wd) (room : Int) (x : Cl) : Wd :=
  if x.kind = 1 then begW h w room
  else if refE h w.js x = 0 then callP h w (placeJ w.js x.n).toNat x
  else refW h w x (refE h w.js x)
/-- A call: what the turn says, and the code. -/
noncomputable def callT (h : Hd) (next : Int) (js : List Jb) (room : Int) (x : Cl) : Wd × Int :=
  if callE h next js x = 0 then (callW h (wdN next js) room x, 0) else (wd0, callE h next js x)
noncomputable def sp_Call : Sp := {
  pre := fun ds => ∃ (h : Hd) (next : Int) (js : List Jb) (room : Int) (x : Cl), ds = [cfgD h.S h.ls h.P, .int .i64 h.l, .int .i64 h.me, .agg (dkC next js), .int .i64 room, .agg (clC x)] ∧ js.length ≤ 1000 ∧ ∀ j ∈ js, fewJ j
  F := fun
    | [c, .int _ l, .int _ me, .agg [.int _ next, js], .int _ room, .agg x] => .tup [.agg (trnC (callT ⟨(cfgOf c).1, (cfgOf c).2.1, (cfgOf c).2.2, l, me⟩ next (lsOf jbOf js) room (clOf x)).1), .int .i64 (callT ⟨(cfgOf c).1, (cfgOf c).2.1, (cfgOf c).2.2, l, me⟩ next (lsOf jbOf js) room (clOf x)).2]
    | _ => .any }
theorem call_F (h : Hd) (next : Int) (js : List Jb) (room : Int) (x : Cl) : sp_Call.F [cfgD h.S h.ls h.P, .int .i64 h.l, .int .i64 h.me, .agg (dkC next js), .int .i64 room, .agg (clC x)] = .tup [.agg (trnC (callT h next js room x).1), .int .i64 (callT h next js room x).2] := by
  simp only [sp_Call, dkC, cfgOf_cfgD, jbs_of, clOf_clC]
theorem call_pre (h : Hd) (next : Int) {js : List Jb} (room : Int) (x : Cl) (hl : js.length ≤ 1000) (hf : ∀ j ∈ js, fewJ j) : sp_Call.pre [cfgD h.S h.ls h.P, .int .i64 h.l, .int .i64 h.me, .agg (dkC next js), .int .i64 room, .agg (clC x)] = True := by
  simp only [sp_Call, eq_iff_iff, iff_true]; exact ⟨h, next, js, room, x, rfl, hl, hf⟩

theorem mem_jAt {js : List Jb} {i : Nat} (h : i < js.length) : jAt js i ∈ js := by rw [jAt_eq h]; exact List.getElem_mem h
theorem chkD_ok {s : Int} {ls : List (Int × Int)} {p next : Int} {l : List Jb} (h : chkD s ls p next l = 0) : check s ls p = 0 ∧ 1 ≤ next ∧ next ≤ 1048577 ∧ l.length ≤ 6 ∧ okJbs s ls.length next l l.length := by
  unfold chkD at h
  split at h
  · rename_i h1; exact absurd h h1
  · rename_i h1
    have h1' : check s ls p = 0 := by simpa using h1
    split at h
    · omega
    · rename_i h2
      refine ⟨h1', by omega, by omega, by omega, ?_⟩
      by_cases hb : okJbs s ls.length next l l.length
      · exact hb
      · rw [jbsI_no hb] at h; omega
theorem check_ok {s : Int} {ls : List (Int × Int)} {p : Int} (h : check s ls p = 0) : 1 ≤ s ∧ s ≤ 4 ∧ 1 ≤ p ∧ p ≤ 1048576 ∧ 1 ≤ ls.length ∧ ls.length ≤ 6 := by
  unfold check at h
  split at h
  · omega
  · split at h
    · omega
    · split at h
      · split at h
        · omega
        · omega
      · rename_i h3; exact absurd h h3
theorem okTk_key {nl : Nat} {t : Tk} (h : okTk nl t = true) : 0 ≤ t.key ∧ t.key < 8 := by
  unfold okTk at h
  simp only [Bool.and_eq_true, Bool.not_eq_true', Bool.or_eq_false_iff, decide_eq_false_iff_not] at h
  omega
theorem okJob_ts {S : Int} {nl : Nat} {next : Int} {j : Jb} (hS : 0 ≤ S) (hS4 : S ≤ 4) (h : okJob S nl next j) : okTs j := by
  obtain ⟨h1, h2, h3, h4, h5, h6, h7, h8, h9, h10, h11, h12⟩ := h
  refine ⟨by omega, ?_, ?_⟩
  · have := okUpto_len h11 hS; omega
  · intro t ht
    obtain ⟨k, hk, rfl⟩ := List.getElem_of_mem ht
    have := (h10 k hk).1
    rw [show j.tasks.getD k tk0 = j.tasks[k] by simp [List.getD, hk]] at this
    exact okTk_key this
/-- What is known where a turn may be begun. -/
theorem beg_ok {h : Hd} {next : Int} {js : List Jb} (hb : begE h next js = 0) : check h.S h.ls h.P = 0 ∧ 1 ≤ next ∧ next ≤ 1048577 ∧ js.length ≤ 6 ∧ okJbs h.S h.ls.length next js js.length ∧ 0 ≤ h.l ∧ h.l < h.ls.length ∧ 0 ≤ h.me ∧ h.me < h.S := by
  unfold begE at hb
  split at hb
  · rename_i h1; exact absurd hb h1
  · rename_i h1
    obtain ⟨a, b, c, d, e⟩ := chkD_ok (by simpa using h1)
    split at hb
    · omega
    · split at hb
      · omega
      · exact ⟨a, b, c, d, e, by omega, by omega, by omega, by omega⟩
theorem okJbs_at {S : Int} {nl : Nat} {next : Int} {js : List Jb} (h : okJbs S nl next js js.length) {i : Nat} (hi : i < js.length) : okJob S nl next (jAt js i) := (h i hi).1
theorem ref_ok {h : Hd} {js : List Jb} {x : Cl} (hr : refE h js x = 0) : 0 ≤ placeJ js x.n ∧ refJ h (jAt js (placeJ js x.n).toNat) x = 0 := by
  unfold refE refP at hr
  split at hr
  · omega
  · exact ⟨by omega, hr⟩
theorem refJ_ok {h : Hd} {j : Jb} {x : Cl} (hr : refJ h j x = 0) : j.state = 1 ∧ ¬ waits j ∧ ((x.kind = 2 ∨ x.kind = 3) → ¬ badR x ∧ ¬ badL h x ∧ j.tasks.length ≠ 10 ∧ j.asks ≠ 1048576) := by
  unfold refJ at hr
  split at hr
  · rename_i h1
    split at hr
    · omega
    · rename_i h2
      refine ⟨h1, h2, fun hk => ?_⟩
      rw [if_pos hk] at hr
      split at hr
      · omega
      · rename_i h3
        split at hr
        · omega
        · rename_i h4
          split at hr
          · omega
          · rename_i h5
            exact ⟨h3, h4, by omega, by omega⟩
  · omega

section
variable {T : Tb}
attribute [local simp] k_seq k_block k_skip k_reg k_alt k_cond k_exit k_ret kf_nil kf_seq_n kf_seq_e kf_seq_r kf_blk_n kf_blk_e kf_blk_r kf_lp_n kf_lp_e kf_lp_r kf_cut_n kf_cut_e kf_cut_r mkTm VCops VCalt istep act gd applyE wrapD Opd.ev get_mk set_mk set_mk0 tget16 tset16 tget_0 tset_0 tget_1 tset_1 tget_2 tset_2 tget_3 tset_3 tget_4 tset_4 tget_5 tset_5 tget_6 tset_6 tget_7 tset_7 tget_8 tset_8 tget_9 tset_9 tget_10 tset_10 tget_11 tset_11 tget_12 tset_12 tget_13 tset_13 tget_14 tset_14 tget_15 tset_15 D.un D.gu gus IOp.opds binD fnPost getRes IRes.get oneRes D.out outL D.clos closL D.norow norowL D.lv lvL D.scal scalL D.cells D.cell D.cell' St.lk obPut obDel List.lookup cut pickD splice fillParts fillRows elem_cons newsOf D.pl D.forget forgetL Ob.forget forgetO eqCells sg leD leDL leOb apartK St.le D.keys keysL D.rows rowsL obKeys addKeys reach pos D.ren renL Ob.ren inM outM inObs outObs goneK apartN okNames_eq okNms obNms namesOK_nil namesOK_cons freeOK_nil freeOK_cons D.frz frzL Ob.frz frzO St.frz forgetLs dropObs putObs hcall freeOf keeps baseN shD isShift shMax k_bad VCopsG frz_nil actx actc cnum vwCut St.frzT St.opnT St.clsT D.opn opnL Ob.opn opnO VCou VCcx St.oneS D.objI D.objK scrL D.scr St.opnS St.clsS D.cellS D.fzs fzsL k_mrk k_mrq IOper.gh
set_option maxRecDepth 100000 in
set_option maxHeartbeats 16000000 in
theorem v_Call (h1 : T.sp n_coord_begin = some sp_begin) (h2 : T.sp n_coord_work_begun = some sp_begun) (h3 : T.sp n_coord_work_refuse = some sp_refuse) (h4 : T.sp n_coord_work_reply = some sp_reply) (h5 : T.sp n_coord_work_place = some sp_place) (h6 : T.sp n_coord_work_task = some sp_tsk) (h7 : T.sp n_coord_work_committing = some sp_committing) (h8 : T.sp n_coord_work_end = some sp_end) : Verified T ir_coord_Call sp_Call := by
  refine Verified.mk ?_
  rintro ds ⟨h, next, js, room, x, rfl, hl, hf⟩
  rw [call_F]
  have x1 : sp_begin.hx = some hs_begin := rfl
  have x2 : sp_begun.hx = some (hsW preBeg fBeg) := rfl
  have x3 : sp_refuse.hx = some (hsW preRef fRef) := rfl
  have x4 : sp_reply.hx = some hs_reply := rfl
  have x5 : sp_place.hx = some hs_place := rfl
  have x6 : sp_tsk.hx = some (hsW preTsk fTsk) := rfl
  have x7 : sp_committing.hx = some (hsW preAt fCg) := rfl
  have x8 : sp_end.hx = some hs_end := rfl
  have p1 := begin_pre h next (l := js) (by omega) hf
  simp only [callT, callE]
  by_cases hb : begE h next js = 0
  · have f1 := begin_F0 hb
    obtain ⟨b1, b2, b3, b4, b5, b6, b7, b8, b9⟩ := beg_ok hb
    obtain ⟨c1, c2, c3, c4, c5, c6⟩ := check_ok b1
    have hts : ∀ i : Nat, i < js.length → okTs (jAt js i) := fun i hi => okJob_ts (by omega) c2 (okJbs_at b5 hi)
    have hfew : fewW h (wdN next js) := ⟨c1, by simp only [wdN]; omega, by simp [wdN], by simp [wdN], by simp [wdN]⟩
    simp only [hb, ne_eq, not_true, if_false]
    by_cases hk : x.kind < 1 ∨ 5 < x.kind
    · obtain ⟨kind, n, label, key, value⟩ := x
      simp only at hk
      simp only [if_pos hk]
      simp only [cfgD, dkC, clC, wb, trnC, wd0] at f1 p1 ⊢
      by_cases hk1 : kind < 1
      · simp (implicitDefEqProofs := false) (maxSteps := 10000000) [ir_coord_Call, h1, x1, f1, p1, hk1]
      · have hk2 : 5 < kind := by omega
        simp (implicitDefEqProofs := false) (maxSteps := 10000000) [ir_coord_Call, h1, x1, f1, p1, hk1, hk2]
    · simp only [if_neg hk, if_true]
      have hk1 : ¬ x.kind < 1 := by omega
      have hk2 : ¬ 5 < x.kind := by omega
      simp only [callW]
      by_cases hk3 : x.kind = 1
      · simp only [if_pos hk3]
        have f2 := hsW_F preBeg fBeg h (wdN next js) [.int .i64 room]
        have p2 := hsW_pre fBeg (pre := preBeg) (h := h) (w := wdN next js) (av := [.int .i64 room]) ⟨room, rfl, hfew, by simp only [wdN]; omega, by simp only [wdN]; omega⟩
        simp only [fBeg] at f2
        generalize begW h (wdN next js) room = w at f2 ⊢
        obtain ⟨kind, n, label, key, value⟩ := x
        obtain ⟨w1, w2, w3, w4, w5', w6, w7'⟩ := w
        simp only at hk3 hk1 hk2
        subst hk3
        simp only [cfgD, dkC, clC, wb, trnC, wRW, wR, wIW, wI, w5, wdN] at f1 p1 f2 p2 ⊢
        simp (implicitDefEqProofs := false) (maxSteps := 10000000) [ir_coord_Call, h1, x1, f1, p1, h2, x2, f2, p2, outE_jbS]
      · simp only [if_neg hk3]
        have f3 := hsW_F preRef fRef h (wdN next js) [.agg (clC x)]
        have p3 := hsW_pre fRef (pre := preRef) (h := h) (w := wdN next js) (av := [.agg (clC x)]) ⟨x, rfl, hts, hfew, b6, b7⟩
        simp only [fRef, clOf_clC] at f3
        have hwj : (wdN next js).js = js := rfl
        rw [hwj] at f3 ⊢
        by_cases hr : refE h js x = 0
        · simp only [if_pos hr]
          obtain ⟨r1, r2⟩ := ref_ok hr
          obtain ⟨r3, r4, r5⟩ := refJ_ok r2
          rw [hr] at f3
          have f5 := place_F x.n h next 0 0 js [] [] []
          have p5 := place_pre x.n h next 0 0 (js := js) [] [] [] (by omega)
          have hpb := placeJ_b js x.n
          generalize placeJ js x.n = p at f5 r1 r2 r3 r4 r5 hpb ⊢
          obtain ⟨i, rfl⟩ : ∃ i : Nat, p = i := ⟨p.toNat, by omega⟩
          have hi : i < js.length := by omega
          simp only [Int.toNat_natCast] at r2 r3 r4 r5 ⊢
          have hjob := okJbs_at b5 hi
          have hjt := hts i hi
          simp only [callP]
          by_cases k2 : x.kind = 2
          · obtain ⟨q1, q2, q3, q4⟩ := r5 (Or.inl k2)
            simp only [badR, not_or, Int.not_lt, Int.not_le] at q1
            simp only [if_pos k2]
            have f6 := hsW_F preTsk fTsk h (wdN next js) [.int .i64 i, .agg (tkC ⟨false, x.label, x.key, 0, 0, 0, false, false⟩)]
            have p6 := hsW_pre fTsk (pre := preTsk) (h := h) (w := wdN next js) (av := [.int .i64 i, .agg (tkC ⟨false, x.label, x.key, 0, 0, 0, false, false⟩)]) ⟨i, _, rfl, hi, hjt, hfew, hjob.2.2.2.2.2.2.2.1, by have := hjob.2.2.2.2.2.2.2.2.1; simp only [wdN]; omega, q1.1, q1.2.1⟩
            simp only [fTsk, tkOf_tkC, Int.toNat_natCast] at f6
            generalize tskW h (wdN next js) i ⟨false, x.label, x.key, 0, 0, 0, false, false⟩ = w at f6 ⊢
            obtain ⟨kind, n, label, key, value⟩ := x
            obtain ⟨w1, w2, w3, w4, w5', w6, w7'⟩ := w
            simp only at k2 hk1 hk2 hk3 q1
            subst k2
            simp only [cfgD, dkC, clC, tkC, wb, trnC, wRW, wR, wIW, wI, w5, wdN] at f1 p1 f3 p3 f5 p5 f6 p6 ⊢
            simp (implicitDefEqProofs := false) (maxSteps := 10000000) [ir_coord_Call, h1, x1, f1, p1, h3, x3, f3, p3, h5, x5, f5, p5, h6, x6, f6, p6, outE_jbS]
          · simp only [if_neg k2]
            by_cases k3 : x.kind = 3
            · obtain ⟨q1, q2, q3, q4⟩ := r5 (Or.inr k3)
              simp only [badR, not_or, Int.not_lt, Int.not_le] at q1
              simp only [if_pos k3]
              have f6 := hsW_F preTsk fTsk h (wdN next js) [.int .i64 i, .agg (tkC ⟨true, h.l, x.key, x.value, 0, 0, false, false⟩)]
              have p6 := hsW_pre fTsk (pre := preTsk) (h := h) (w := wdN next js) (av := [.int .i64 i, .agg (tkC ⟨true, h.l, x.key, x.value, 0, 0, false, false⟩)]) ⟨i, _, rfl, hi, hjt, hfew, hjob.2.2.2.2.2.2.2.1, by have := hjob.2.2.2.2.2.2.2.2.1; simp only [wdN]; omega, q1.1, q1.2.1⟩
              simp only [fTsk, tkOf_tkC, Int.toNat_natCast] at f6
              generalize tskW h (wdN next js) i ⟨true, h.l, x.key, x.value, 0, 0, false, false⟩ = w at f6 ⊢
              obtain ⟨kind, n, label, key, value⟩ := x
              obtain ⟨w1, w2, w3, w4, w5', w6, w7'⟩ := w
              simp only at k2 k3 hk1 hk2 hk3 q1
              subst k3
              simp only [cfgD, dkC, clC, tkC, wb, trnC, wRW, wR, wIW, wI, w5, wdN] at f1 p1 f3 p3 f5 p5 f6 p6 ⊢
              simp (implicitDefEqProofs := false) (maxSteps := 10000000) [ir_coord_Call, h1, x1, f1, p1, h3, x3, f3, p3, h5, x5, f5, p5, h6, x6, f6, p6, outE_jbS]
            · simp only [if_neg k3]
              by_cases k4 : x.kind = 4
              · simp only [if_pos k4]
                have f7 := hsW_F preAt fCg h (wdN next js) [.int .i64 i]
                have p7 := hsW_pre fCg (pre := preAt) (h := h) (w := wdN next js) (av := [.int .i64 i]) ⟨i, rfl, hi, hjt, hfew⟩
                simp only [fCg, Int.toNat_natCast] at f7
                generalize cgW h (wdN next js) i = w at f7 ⊢
                obtain ⟨kind, n, label, key, value⟩ := x
                obtain ⟨w1, w2, w3, w4, w5', w6, w7'⟩ := w
                simp only at k2 k3 k4 hk1 hk2 hk3
                subst k4
                simp only [cfgD, dkC, clC, wb, trnC, wRW, wR, wIW, wI, w5, wdN] at f1 p1 f3 p3 f5 p5 f7 p7 ⊢
                simp (implicitDefEqProofs := false) (maxSteps := 10000000) [ir_coord_Call, h1, x1, f1, p1, h3, x3, f3, p3, h5, x5, f5, p5, h7, x7, f7, p7, outE_jbS]
              · simp only [if_neg k4]
                have k5 : x.kind = 5 := by omega
                have f8 := end_F h next 0 0 (js := js) [] [] [] hi
                have p8 := end_pre h next 0 0 (js := js) (ms := []) [] [] hi (by omega) hjt c1 (by simp)
                have f4 := reply_F 5 x.n 0 0 0 h next 0 0 (.rws 6 ((delE js i).map jbS)) ((sitesF h.S h.l (jAt js i).tasks).map (endC h.me (jAt js i).n)) [] [] []
                have p4 := reply_pre 5 x.n 0 0 0 h next 0 0 ((sitesF h.S h.l (jAt js i).tasks).map (endC h.me (jAt js i).n)) [] (rp := []) (Jst.shut ((delE js i).map jbS)) (by simp)
                simp only [endW, cmS, wdN]
                simp only [List.nil_append] at f8 f4 ⊢
                generalize (sitesF h.S h.l (jAt js i).tasks).map (endC h.me (jAt js i).n) = M at f8 f4 p4 ⊢
                generalize delE js i = J at f8 f4 p4 ⊢
                obtain ⟨kind, n, label, key, value⟩ := x
                simp only at k2 k3 k4 k5 hk1 hk2 hk3
                subst k5
                simp only [cfgD, dkC, clC, wb, trnC, wRW, wR, wIW, wI, w5, wdN] at f1 p1 f3 p3 f5 p5 f8 p8 f4 p4 ⊢
                simp (implicitDefEqProofs := false) (maxSteps := 10000000) [ir_coord_Call, h1, x1, f1, p1, h3, x3, f3, p3, h5, x5, f5, p5, h8, x8, f8, p8, h4, x4, f4, p4, outE_jbS]
        · simp only [if_neg hr]
          generalize refE h js x = e at hr f3 ⊢
          have f4 := reply_F x.kind x.n x.key 0 e h next 0 0 (.rws 6 (js.map jbS)) [] [] [] []
          have p4 := reply_pre x.kind x.n x.key 0 e h next 0 0 [] [] (rp := []) (Jst.shut (js.map jbS)) (by simp)
          obtain ⟨kind, n, label, key, value⟩ := x
          simp only at hk1 hk2 hk3
          simp only [refW, cfgD, dkC, clC, wb, trnC, wRW, wR, wIW, wI, w5, wdN] at f1 p1 f3 p3 f4 p4 ⊢
          simp (implicitDefEqProofs := false) (maxSteps := 10000000) [ir_coord_Call, h1, x1, f1, p1, h3, x3, f3, p3, h4, x4, f4, p4, hk1, hk2, hk3, hr, outE_jbS]
  · have f1 := begin_F1 hb
    simp only [ne_eq, hb, not_false_iff, if_true, if_false]
    generalize begE h next js = e at hb f1 ⊢
    simp only [cfgD, dkC, clC, wb, trnC, wd0] at f1 p1 ⊢
    simp (implicitDefEqProofs := false) (maxSteps := 10000000) [ir_coord_Call, h1, x1, f1, p1, hb]
end
end Go.Proofs.YtchbnpjegacobaaDoor
