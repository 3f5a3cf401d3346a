/-
  Turns at a coordinator: what is asked again; a client wants a transaction to be committed. Conditions: those of each specification's 'pre', and that the functions that are called are what theirs say.
-/
import Derived.Test.YtchbnpjegacobaaDoorCoI
set_option linter.unusedVariables false
set_option linter.unusedSimpArgs false
namespace Go.Proofs.YtchbnpjegacobaaDoor
open Go Go.Vcg

def agnB (t : Tk) : Bool := !(t.wr || t.sure)
def agnC (h : Hd) (n : Int) (t : Tk) : List D := msgC ⟨3, h.me, t.key.tmod h.S, h.me, n, t.label, t.key, 0, t.version, 0, false, 0⟩
def agnM (h : Hd) (j : Jb) : List (List D) := (j.tasks.filter agnB).map (agnC h j.n)
/-- A turn's work behind a step that sends. -/
def wRm (h : Hd) (next su co : Int) (js : List Jb) (ms rs rp : List (List D)) : List (Nat × Ob) :=
  [(1000000000, wb h next 1000000001 0 1000000003 1000000004 su co), (1000000001, .rws 6 (js.map jbS)), (0, .row 12 ms), (1000000003, .row 8 rs), (1000000004, .row 6 rp)]
def hs_again : HSp := {
  pre := fun ds ob => ∃ (i : Nat) (h : Hd) (next su co : Int) (js : List Jb) (ms rs rp : List (List D)), ds = [.own 1000000000 0, .int .i64 i] ∧ ob = wI h next su co js ms rs rp ∧ i < js.length ∧ okTs (jAt js i) ∧ 1 ≤ h.S ∧ ms.length ≤ 10000
  F := fun ds ob => match ds, ob with
    | [_, .int _ i], [(_, b), (_, .rws _ es), (_, .row _ ms), (_, .row _ rs), (_, .row _ rp)] =>
      (.bool ((jAt (es.map jbSOf) i.toNat).tasks.any agnB), wRm (hdOf b).1 (hdOf b).2.1 (hdOf b).2.2.1 (hdOf b).2.2.2 (es.map jbSOf) (ms ++ agnM (hdOf b).1 (jAt (es.map jbSOf) i.toNat)) rs rp)
    | _, _ => (.any, []) }
def sp_again : Sp := { pre := fun _ => True, F := fun _ => .any, hx := some hs_again }
theorem again_F (i : Nat) (h : Hd) (next su co : Int) (js : List Jb) (ms rs rp : List (List D)) : hs_again.F [.own 1000000000 0, .int .i64 i] (wI h next su co js ms rs rp) = (.bool ((jAt js i).tasks.any agnB), wRm h next su co js (ms ++ agnM h (jAt js i)) rs rp) := by
  simp only [hs_again, wI, w5, jbsS_of, hdOf_wb, Int.toNat_natCast]
theorem again_pre {i : Nat} (h : Hd) (next su co : Int) {js : List Jb} {ms : List (List D)} (rs rp : List (List D)) (hi : i < js.length) (hj : okTs (jAt js i)) (hS : 1 ≤ h.S) (h1 : ms.length ≤ 10000) : hs_again.pre [.own 1000000000 0, .int .i64 i] (wI h next su co js ms rs rp) = True := by
  simp only [hs_again, eq_iff_iff, iff_true]; exact ⟨i, h, next, su, co, js, ms, rs, rp, rfl, rfl, hi, hj, hS, h1⟩

section
variable {T : Tb}
attribute [local simp] k_seq k_block k_skip k_reg k_alt k_cond k_exit k_ret kf_nil kf_seq_n kf_seq_e kf_seq_r kf_blk_n kf_blk_e kf_blk_r kf_lp_n kf_lp_e kf_lp_r kf_cut_n kf_cut_e kf_cut_r mkTm VCops VCalt istep act gd applyE wrapD Opd.ev get_mk set_mk set_mk0 tget16 tset16 tget_0 tset_0 tget_1 tset_1 tget_2 tset_2 tget_3 tset_3 tget_4 tset_4 tget_5 tset_5 tget_6 tset_6 tget_7 tset_7 tget_8 tset_8 tget_9 tset_9 tget_10 tset_10 tget_11 tset_11 tget_12 tset_12 tget_13 tset_13 tget_14 tset_14 tget_15 tset_15 D.un D.gu gus IOp.opds binD fnPost getRes IRes.get oneRes D.out outL D.clos closL D.norow norowL D.lv lvL D.scal scalL D.cells D.cell D.cell' St.lk obPut obDel List.lookup cut pickD splice fillParts fillRows elem_cons newsOf D.pl D.forget forgetL Ob.forget forgetO eqCells sg leD leDL leOb apartK St.le D.keys keysL D.rows rowsL obKeys addKeys reach pos D.ren renL Ob.ren inM outM inObs outObs goneK apartN okNames_eq okNms obNms namesOK_nil namesOK_cons freeOK_nil freeOK_cons D.frz frzL Ob.frz frzO St.frz forgetLs dropObs putObs hcall freeOf keeps baseN shD isShift shMax k_bad VCopsG frz_nil actx actc cnum vwCut St.frzT St.opnT St.clsT D.opn opnL Ob.opn opnO VCou VCcx St.oneS D.objI D.objK scrL D.scr St.opnS St.clsS D.cellS D.fzs fzsL k_mrk k_mrq IOper.gh
set_option maxRecDepth 100000 in
set_option maxHeartbeats 8000000 in
theorem v_again (h1 : T.sp n_coord_work_send = some sp_send) : Verified T ir_coord_work_again sp_again := by
  refine Verified.mkx rfl ?_
  rintro ds ob ⟨i, h, next, su, co, js, ms, rs, rp, rfl, rfl, hi, hj, hS, hm⟩ R hR
  rw [again_F] at hR
  have x1 : sp_send.hx = some hs_send := rfl
  have hi1 : (i : Int) < js.length := by omega
  have hel := elem_jbS hi
  obtain ⟨j1, j2, j3⟩ := hj
  have hse := fun e => set_jbS (e := e) hi
  rw [← jAt_eq hi] at hse
  simp only [agnM] at hR
  generalize jAt js i = j at hel j1 j2 j3 hse hR
  obtain ⟨a1, a2, a3, a4, a5, a6⟩ := j
  simp only [jbS] at hel hse j1 j2 j3
  have hse' := hse _ rfl
  simp only [wI, wRm, w5, wb] at hR ⊢
  simp (implicitDefEqProofs := false) (maxSteps := 10000000) [ir_coord_work_again, hi, hi1, hel]
  refine k_loop (ι := {k : Nat // k ≤ a3.length}) (fun x => ⟨mkTm 64 0 [(0, .own 1000000000 0), (1, .int .i64 i), (5, .elr 1000000001 6 i 0), (6, .bool ((a3.take x.1).any agnB)), (21, .row 900), (22, .int .i64 a3.length), (23, .int .i64 x.1)], [(1000000000, wb h next 1000000001 100 1000000003 1000000004 su co), (1000000001, .rwh 6 (js.map jbS) i [.int .i64 a1, .int .i64 a2, .row 900, .row 901, .int .i64 a5, .int .i64 a6]), (100, .row 12 (ms ++ ((a3.take x.1).filter agnB).map (agnC h a1))), (1000000003, .row 8 rs), (1000000004, .row 6 rp), (900, .row 8 (a3.map tkC)), (901, .row 1 (a4.map ic))]⟩)
    (fun x => a3.length - x.1) [(100, some 1000000002)] ⟨0, by omega⟩ (by simp (implicitDefEqProofs := false) (maxSteps := 10000000) [wb]) ?_
  rintro ⟨k, hk⟩ P hP
  simp only [wb] at hP ⊢
  rcases Nat.lt_or_ge k a3.length with hlt | hge
  · have hk1 : (k : Int) < a3.length := by omega
    have hel2 := elem_map tkC a3 k hlt
    obtain ⟨k1, k2⟩ := j3 a3[k] (List.getElem_mem hlt)
    have hML : (ms ++ ((a3.take k).filter agnB).map (agnC h a1)).length ≤ 20000 := by
      have h2 := List.length_filter_le agnB (a3.take k)
      have h3 : (a3.take k).length ≤ a3.length := by rw [List.length_take]; omega
      simp; omega
    have htk : ms ++ ((a3.take (k + 1)).filter agnB).map (agnC h a1) = (ms ++ ((a3.take k).filter agnB).map (agnC h a1)) ++ (if agnB a3[k] = true then [agnC h a1 a3[k]] else []) := by
      rw [← List.take_append_getElem hlt, List.filter_append, List.map_append, List.append_assoc]
      by_cases hb : agnB a3[k] = true
      · simp [hb]
      · simp [hb]
    have hany : (a3.take (k + 1)).any agnB = ((a3.take k).any agnB || agnB a3[k]) := by
      rw [← List.take_append_getElem hlt, List.any_append]; simp
    generalize ms ++ ((a3.take k).filter agnB).map (agnC h a1) = M at htk hML ⊢
    generalize (a3.take k).any agnB = B at hany ⊢
    generalize a3[k] = t at hel2 htk k1 k2 hany
    obtain ⟨t1, t2, t3, t4, t5, t6, t7, t8⟩ := t
    simp only [tkC, agnB] at hel2 htk hany k1 k2
    have hS0 : ¬ h.S = 0 := by omega
    have f1 := send_F 3 (t3.tmod h.S) a1 h next su co (.rwh 6 (js.map jbS) i [.int .i64 a1, .int .i64 a2, .row 1000000005, .row 1000000006, .int .i64 a5, .int .i64 a6]) M rs rp [(1000000005, .row 8 (a3.map tkC)), (1000000006, .row 1 (a4.map ic))]
    have p1 := send_pre 3 (t3.tmod h.S) a1 h next su co (ms := M) rs rp (Jst.opened (js.map jbS) i a1 a2 a5 a6 (a3.map tkC) (a4.map ic)) (by omega)
    have e1 := elem_snoc M
    have e2 := set_snoc M
    simp only [wb, w5, msgC] at f1 p1
    cases t1
    · cases t8
      · simp only [Bool.or_self, Bool.not_false, if_true, Bool.or_true] at htk hany
        simp (implicitDefEqProofs := false) (maxSteps := 10000000) [ir_coord_work_again_b0, hk1, hlt, hel2, hS0, h1, x1, f1, p1, e1, e2]
        exact ⟨by simp only [inR]; omega, hP _ [(100, some 470000)] ⟨k + 1, by omega⟩ (by simp (implicitDefEqProofs := false) (maxSteps := 10000000) [htk, hany, agnC, msgC]) (by simp only; omega)⟩
      · simp only [Bool.or_true, Bool.not_true, Bool.false_eq_true, if_false, List.append_nil, Bool.or_false] at htk hany
        simp (implicitDefEqProofs := false) (maxSteps := 10000000) [ir_coord_work_again_b0, hk1, hlt, hel2, hS0]
        exact ⟨by simp only [inR]; omega, hP _ [] ⟨k + 1, by omega⟩ (by simp (implicitDefEqProofs := false) (maxSteps := 10000000) [htk, hany]) (by simp only; omega)⟩
    · simp only [Bool.true_or, Bool.not_true, Bool.false_eq_true, if_false, List.append_nil, Bool.or_false] at htk hany
      simp (implicitDefEqProofs := false) (maxSteps := 10000000) [ir_coord_work_again_b0, hk1, hlt, hel2, hS0]
      exact ⟨by simp only [inR]; omega, hP _ [] ⟨k + 1, by omega⟩ (by simp (implicitDefEqProofs := false) (maxSteps := 10000000) [htk, hany]) (by simp only; omega)⟩
  · have hk1 : ¬ (k : Int) < a3.length := by omega
    obtain rfl : k = a3.length := by omega
    simp (implicitDefEqProofs := false) (maxSteps := 10000000) [ir_coord_work_again_b0, ir_coord_work_again_r1, hk1, hse']
    exact hR _ [(0, some 100)] (by simp (implicitDefEqProofs := false) (maxSteps := 10000000))
end
end Go.Proofs.YtchbnpjegacobaaDoor
