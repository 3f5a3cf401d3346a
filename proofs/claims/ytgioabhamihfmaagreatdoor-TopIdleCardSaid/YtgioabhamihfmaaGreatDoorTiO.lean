/-
  Where nothing is: an act is carried out. Conditions: those of each specification's 'pre', and that the functions that are called are what theirs say.
-/
import Derived.Test.YtgioabhamihfmaaGreatDoorTiN
set_option linter.unusedVariables false
set_option linter.unusedSimpArgs false
namespace Go.Proofs.YtgioabhamihfmaaGreatDoor
open Go Go.Vcg

section
variable {T : Tb}
attribute [local simp] isMl VCopsM mstep mchk lchk kchk IOp.isB k_seq k_block k_skip k_reg k_alt k_cond k_exit k_ret kf_nil kf_seq_n kf_seq_e kf_seq_r kf_blk_n kf_blk_e kf_blk_r kf_lp_n kf_lp_e kf_lp_r kf_cut_n kf_cut_e kf_cut_r mkTm VCops VCalt istep act gd applyE wrapD Opd.ev get_mk set_mk set_mk0 tget16 tset16 tget_0 tset_0 tget_1 tset_1 tget_2 tset_2 tget_3 tset_3 tget_4 tset_4 tget_5 tset_5 tget_6 tset_6 tget_7 tset_7 tget_8 tset_8 tget_9 tset_9 tget_10 tset_10 tget_11 tset_11 tget_12 tset_12 tget_13 tset_13 tget_14 tset_14 tget_15 tset_15 D.un D.gu gus IOp.opds binD fnPost getRes IRes.get oneRes D.out outL D.clos closL D.norow norowL D.lv lvL D.scal scalL D.cells D.cell D.cell' St.lk obPut obDel List.lookup cut pickD splice fillParts fillRows elem_cons newsOf D.pl D.forget forgetL Ob.forget forgetO eqCells sg leD leDL leOb apartK St.le D.keys keysL D.rows rowsL obKeys addKeys reach pos D.ren renL Ob.ren inM outM inObs outObs goneK apartN okNames_eq okNms obNms namesOK_nil namesOK_cons freeOK_nil freeOK_cons D.frz frzL Ob.frz frzO St.frz forgetLs dropObs putObs hcall freeOf keeps baseN shD isShift shMax k_bad VCopsG frz_nil actx actc cnum vwCut St.frzT St.opnT St.clsT D.opn opnL Ob.opn opnO VCou VCcx St.oneS D.objI D.objK St.objP St.objQ St.pathR St.pathI pathL scrL D.scr St.opnS St.clsS D.cellS D.fzs fzsL k_mrk k_mrq IOper.gh St.bxS D.tob tobL Ob.tob tobO zI zC zw zz zg zm zi zb zf zl za zs zn zo zd zy zu ze zk zt zc zp
set_option maxRecDepth 100000 in
set_option maxHeartbeats 8000000 in
theorem v_Act0 (h1 : T.sp n_cluster_cluster_take = some sp_CTake) (h2 : T.sp n_cluster_cluster_tick = some sp_Tick0) (h3 : T.sp n_cluster_cluster_crash = some sp_Crash0) (h4 : T.sp n_cluster_cluster_start = some sp_Start0) : Verified T ir_cluster_cluster_act sp_Act0 := by
  refine Verified.mkx (hs := hs_Act) rfl ?_
  rintro ds ob ⟨n, ls, P, t, up, xs, rfl, rfl, hc, hup, ht, kd, st, to, lb, pk, kp, c1, c2, c3, c4, c5, ln, rfl, hA, hk⟩ R hR
  unfold sp_CTake at h1
  have q2 : ∀ k : Int, (k = 2 ∨ k = 3 ∨ k = 4) → pTak _ _ = True := fun k h => pCl_eq (q := qAct fun k => k = 2 ∨ k = 3 ∨ k = 4) hc hup ht ⟨k, st, to, lb, pk, kp, c1, c2, c3, c4, c5, ln, rfl, hA, h⟩
  have q5 := pCl_eq (q := fun _ _ xs => xs = []) hc hup ht rfl
  have q6 := pCl_eq (q := qAct fun _ => True) hc hup ht ⟨6, st, to, lb, pk, kp, c1, c2, c3, c4, c5, ln, rfl, hA, trivial⟩
  have q7 := pCl_eq (q := fun n _ xs => ∃ s : Int, xs = [.int .i64 s] ∧ 0 ≤ s ∧ s < n) hc hup ht ⟨st, rfl, hA.1.1, hA.1.2⟩
  simp only [clO, clB, upsO, worldsO, storesO, aC] at hR q2 q5 q6 q7 ⊢
  generalize wC n = wc at *
  generalize ls.map lbc = cs at *
  generalize ls.length = L at *
  rw [act_F] at hR
  rcases (show kd = 2 ∨ kd = 3 ∨ kd = 4 ∨ kd = 5 ∨ kd = 6 ∨ kd = 7 by omega) with rfl | rfl | rfl | rfl | rfl | rfl
  · have q := q2 2 (by simp)
    simp (implicitDefEqProofs := false) (maxSteps := 10000000) [-List.lookup_eq_none_iff, ir_cluster_cluster_act, h1, spI_hx, hsI_F, hsI_pre, q]
    exact hR _ [] (by simp (implicitDefEqProofs := false) (maxSteps := 10000000) [-List.lookup_eq_none_iff, actOb])
  · have q := q2 3 (by simp)
    simp (implicitDefEqProofs := false) (maxSteps := 10000000) [-List.lookup_eq_none_iff, ir_cluster_cluster_act, h1, spI_hx, hsI_F, hsI_pre, q]
    exact hR _ [] (by simp (implicitDefEqProofs := false) (maxSteps := 10000000) [-List.lookup_eq_none_iff, actOb])
  · have q := q2 4 (by simp)
    simp (implicitDefEqProofs := false) (maxSteps := 10000000) [-List.lookup_eq_none_iff, ir_cluster_cluster_act, h1, spI_hx, hsI_F, hsI_pre, q]
    exact hR _ [] (by simp (implicitDefEqProofs := false) (maxSteps := 10000000) [-List.lookup_eq_none_iff, actOb])
  · simp (implicitDefEqProofs := false) (maxSteps := 10000000) [-List.lookup_eq_none_iff, ir_cluster_cluster_act, h2, tk_hx, tk_F, tk_pre, q5]
    exact hR _ [] (by simp (implicitDefEqProofs := false) (maxSteps := 10000000) [-List.lookup_eq_none_iff, actOb, tickOb])
  · simp (implicitDefEqProofs := false) (maxSteps := 10000000) [-List.lookup_eq_none_iff, ir_cluster_cluster_act, h3, cra_hx, cra_F, cra_pre, q6]
    exact hR _ [] (by simp (implicitDefEqProofs := false) (maxSteps := 10000000) [-List.lookup_eq_none_iff, actOb, upOb])
  · simp (implicitDefEqProofs := false) (maxSteps := 10000000) [-List.lookup_eq_none_iff, ir_cluster_cluster_act, h4, sta_hx, sta_F, sta_pre, q7]
    exact hR _ [] (by simp (implicitDefEqProofs := false) (maxSteps := 10000000) [-List.lookup_eq_none_iff, actOb, upOb])
end
end Go.Proofs.YtgioabhamihfmaaGreatDoor
