/-
  Turns at a coordinator: a job whose time is over. Conditions: those of each specification's 'pre', and that the functions that are called are what theirs say.
-/
import Derived.Test.YtchbnpjegacobaaDoorCoO
set_option linter.unusedVariables false
set_option linter.unusedSimpArgs false
namespace Go.Proofs.YtchbnpjegacobaaDoor
open Go Go.Vcg

section
variable {T : Tb}
attribute [local simp] k_seq k_block k_skip k_reg k_alt k_cond k_exit k_ret kf_nil kf_seq_n kf_seq_e kf_seq_r kf_blk_n kf_blk_e kf_blk_r kf_lp_n kf_lp_e kf_lp_r kf_cut_n kf_cut_e kf_cut_r mkTm VCops VCalt istep act gd applyE wrapD Opd.ev get_mk set_mk set_mk0 tget16 tset16 tget_0 tset_0 tget_1 tset_1 tget_2 tset_2 tget_3 tset_3 tget_4 tset_4 tget_5 tset_5 tget_6 tset_6 tget_7 tset_7 tget_8 tset_8 tget_9 tset_9 tget_10 tset_10 tget_11 tset_11 tget_12 tset_12 tget_13 tset_13 tget_14 tset_14 tget_15 tset_15 D.un D.gu gus IOp.opds binD fnPost getRes IRes.get oneRes D.out outL D.clos closL D.norow norowL D.lv lvL D.scal scalL D.cells D.cell D.cell' St.lk obPut obDel List.lookup cut pickD splice fillParts fillRows elem_cons newsOf D.pl D.forget forgetL Ob.forget forgetO eqCells sg leD leDL leOb apartK St.le D.keys keysL D.rows rowsL obKeys addKeys reach pos D.ren renL Ob.ren inM outM inObs outObs goneK apartN okNames_eq okNms obNms namesOK_nil namesOK_cons freeOK_nil freeOK_cons D.frz frzL Ob.frz frzO St.frz forgetLs dropObs putObs hcall freeOf keeps baseN shD isShift shMax k_bad VCopsG frz_nil actx actc cnum vwCut St.frzT St.opnT St.clsT D.opn opnL Ob.opn opnO VCou VCcx St.oneS D.objI D.objK scrL D.scr St.opnS St.clsS D.cellS D.fzs fzsL k_mrk k_mrq IOper.gh
set_option maxRecDepth 100000 in
set_option maxHeartbeats 16000000 in
theorem v_late (h1 : T.sp n_coord_work_tell = some sp_tell) (h2 : T.sp n_coord_work_reply = some sp_reply) (h3 : T.sp n_coord_work_end = some sp_end) : Verified T ir_coord_work_late sp_late := by
  refine Verified.mkx rfl ?_
  rintro ds ob ⟨h, ⟨next, su, co, js, ms, rs, rp⟩, av, rfl, rfl, i, rfl, hi, hj, hS, hl, hm1, hm2, hm3⟩ R hR
  rw [hsW_F] at hR
  simp only [fLate, Int.toNat_natCast] at hR hi hj hS hl hm1 hm2 hm3
  have x1 : sp_tell.hx = some hs_tell := rfl
  have x2 : sp_reply.hx = some hs_reply := rfl
  have x3 : sp_end.hx = some hs_end := rfl
  have hi1 : (i : Int) < js.length := by omega
  have hel := elem_jbS hi
  have hse2 := fun x => elem_set_eq (es := js.map jbS) (i := i) (x := x) (by simpa using hi)
  have hst := fun j => (List.map_set (f := jbS) (l := js) (i := i) (a := j)).symm
  have f3 := fun rp' => end_F h next su co ms rs rp' hi
  have p3 := fun rp' => end_pre h next su co (ms := ms) rs rp' hi hl hj hS (by omega)
  have hse := fun e => set_jbS (e := e) hi
  rw [← jAt_eq hi] at hse
  obtain ⟨j1, j2, j3⟩ := hj
  generalize jAt js i = j at hel j1 j2 j3 hse hR f3
  obtain ⟨a1, a2, a3, a4, a5, a6⟩ := j
  simp only [lateW, cmS] at hR
  simp only at f3 j1 j2 j3
  by_cases c3 : a2 = 3
  · subst c3
    have hset := hst ⟨a1, 3, a3, a4, a5, 0⟩
    have hJl : (js.set i ⟨a1, 3, a3, a4, a5, 0⟩).length = js.length := by simp
    have hJe : elem ((js.set i ⟨a1, 3, a3, a4, a5, 0⟩).map jbS) i = jbS ⟨a1, 3, a3, a4, a5, 0⟩ := by rw [List.map_set, hse2]
    have hseJ := fun e => set_jbS (l := js.set i ⟨a1, 3, a3, a4, a5, 0⟩) (i := i) (e := e) (by simpa using hi)
    simp only [List.getElem_set_self] at hseJ
    simp only [if_true] at hR
    generalize js.set i ⟨a1, 3, a3, a4, a5, 0⟩ = J at hset hJl hJe hseJ hR
    have f1 := tell_F h next su co (J.map jbS) i a1 3 a5 0 (a3.map tkC) a4 ms rs rp
    have p1 := tell_pre h next su co (J.map jbS) i a1 3 a5 0 (a3.map tkC) (ak := a4) (ms := ms) rs rp (by omega) (by omega)
    simp only [jbS] at hel hset hJe hseJ
    have hseJ' := hseJ _ rfl
    simp only [wRW, wIW, wI, wR, w5, w7, wb] at f1 p1 hR ⊢
    simp (implicitDefEqProofs := false) (maxSteps := 10000000) [ir_coord_work_late, hi, hi1, hel, h1, x1, f1, p1, hset, hJl, hJe, hseJ']
    exact hR _ [(0, some 1000000001), (1, some 740000), (2, some 1000000003), (3, some 1000000004)] (by simp (implicitDefEqProofs := false) (maxSteps := 10000000))
  · simp only [if_neg c3] at hR
    by_cases c2 : a2 = 2
    · subst c2
      simp only [if_true] at hR
      have f2 := reply_F 4 a1 0 0 14 h next su co (.rws 6 (js.map jbS)) ms rs rp []
      have p2 := reply_pre 4 a1 0 0 14 h next su co ms rs (rp := rp) (Jst.shut (js.map jbS)) (by omega)
      replace f3 := f3 (rp ++ [rpC ⟨h.me, 4, a1, 0, 0, 14⟩])
      replace p3 := p3 (rp ++ [rpC ⟨h.me, 4, a1, 0, 0, 14⟩])
      simp only [jbS] at hel
      simp only [wRW, wIW, wI, wR, w5, w7, wb] at f2 p2 f3 p3 hR ⊢
      simp (implicitDefEqProofs := false) (maxSteps := 10000000) [ir_coord_work_late, hi, hi1, hel, h2, x2, f2, p2, h3, x3, f3, p3]
      exact hR _ [(0, some 850000), (1, some 850001), (2, some 1000000003), (3, some 820000)] (by simp (implicitDefEqProofs := false) (maxSteps := 10000000))
    · simp only [if_neg c2, waits, tkLast] at hR
      simp only [jbS] at hel hse
      have hse' := hse _ rfl
      have hB := Jst.shut (js.map jbS)
      by_cases c0 : a3.length = 0
      · have c0' : a3 = [] := List.eq_nil_of_length_eq_zero c0
        subst c0'
        simp only [List.length_nil, Nat.lt_irrefl, false_and, if_false] at hR
        simp only [List.map_nil] at hel hse'
        replace f3 := f3 rp
        replace p3 := p3 rp
        simp only [wRW, wIW, wI, wR, w5, w7, wb] at f3 p3 hR ⊢
        have hen : elem ([] : List (List D)) 0 = [] := rfl
        simp (implicitDefEqProofs := false) (maxSteps := 10000000) [ir_coord_work_late, hi, hi1, hel, hse', c3, c2, hen, h3, x3, f3, p3]
        exact ⟨by simp only [inR]; omega, hR _ [(0, some 640000), (1, some 640001), (2, some 1000000003), (3, some 1000000004)] (by simp (implicitDefEqProofs := false) (maxSteps := 10000000))⟩
      · have hk : a3.length - 1 < a3.length := by omega
        have hkc : (a3.length : Int) - 1 = ((a3.length - 1 : Nat) : Int) := by omega
        have hke := elem_map tkC a3 (a3.length - 1) hk
        have hkg : a3.getD (a3.length - 1) tk0 = a3[a3.length - 1] := by simp [List.getD, hk]
        have hkr : inR .i64 (((a3.length - 1 : Nat) : Int)) := by simp only [inR]; omega
        simp only [hkg] at hR
        generalize a3[a3.length - 1] = t at hke hR
        obtain ⟨t1, t2, t3, t4, t5, t6, t7, t8⟩ := t
        simp only [tkC] at hke hR
        have hk1 : (((a3.length - 1 : Nat) : Int)) < (a3.length : Int) := by omega
        have hk0 : (0 : Int) ≤ ((a3.length - 1 : Nat) : Int) := by omega
        generalize hkn : a3.length - 1 = k at hk hkc hke hkr hk1 hk0
        cases t7
        · have c00 : (0 < a3.length ∧ (false : Bool) = false) := ⟨by omega, rfl⟩
          simp only [if_pos c00, c00.1, if_true] at hR
          have f2 := fun kd => reply_F kd a1 t3 0 14 h next su co (.rwh 6 (js.map jbS) i [.int .i64 a1, .int .i64 a2, .row 1000000005, .row 1000000006, .int .i64 a5, .int .i64 a6]) ms rs rp [(1000000005, .row 8 (a3.map tkC)), (1000000006, .row 1 (a4.map ic))]
          have p2 := fun kd => reply_pre kd a1 t3 0 14 h next su co ms rs (rp := rp) (Jst.opened (js.map jbS) i a1 a2 a5 a6 (a3.map tkC) (a4.map ic)) (by omega)
          cases t1
          · simp only [Bool.false_eq_true, if_false] at hR
            replace f3 := f3 (rp ++ [rpC ⟨h.me, 2, a1, t3, 0, 14⟩])
            replace p3 := p3 (rp ++ [rpC ⟨h.me, 2, a1, t3, 0, 14⟩])
            simp only [wRW, wIW, wI, wR, w5, w7, wb] at f2 p2 f3 p3 hR ⊢
            simp (implicitDefEqProofs := false) (maxSteps := 10000000) [ir_coord_work_late, hi, hi1, hel, hse', c3, c2, hkc, hk, hk1, hke, hkr, h2, x2, f2, p2, h3, x3, f3, p3]
            exact hR _ [(0, some 640000), (1, some 640001), (2, some 1000000003), (3, some 610000)] (by simp (implicitDefEqProofs := false) (maxSteps := 10000000))
          · simp only [if_true] at hR
            replace f3 := f3 (rp ++ [rpC ⟨h.me, 3, a1, t3, 0, 14⟩])
            replace p3 := p3 (rp ++ [rpC ⟨h.me, 3, a1, t3, 0, 14⟩])
            simp only [wRW, wIW, wI, wR, w5, w7, wb] at f2 p2 f3 p3 hR ⊢
            simp (implicitDefEqProofs := false) (maxSteps := 10000000) [ir_coord_work_late, hi, hi1, hel, hse', c3, c2, hkc, hk, hk1, hke, hkr, h2, x2, f2, p2, h3, x3, f3, p3]
            exact hR _ [(0, some 640000), (1, some 640001), (2, some 1000000003), (3, some 610000)] (by simp (implicitDefEqProofs := false) (maxSteps := 10000000))
        · have c00 : ¬ (0 < a3.length ∧ (true : Bool) = false) := fun hh => absurd hh.2 (by decide)
          simp only [if_neg c00] at hR
          replace f3 := f3 rp
          replace p3 := p3 rp
          simp only [wRW, wIW, wI, wR, w5, w7, wb] at f3 p3 hR ⊢
          simp (implicitDefEqProofs := false) (maxSteps := 10000000) [ir_coord_work_late, hi, hi1, hel, hse', c3, c2, hkc, hk, hk1, hke, hkr, h3, x3, f3, p3]
          exact hR _ [(0, some 640000), (1, some 640001), (2, some 1000000003), (3, some 1000000004)] (by simp (implicitDefEqProofs := false) (maxSteps := 10000000))
end
end Go.Proofs.YtchbnpjegacobaaDoor
