/-
  Where nothing is: stores. Conditions: those of each specification's 'pre', and that the functions that are called are what theirs say.
-/
import Derived.Test.YtgioabhamihfmaaGreatDoorTiA
set_option linter.unusedVariables false
set_option linter.unusedSimpArgs false
namespace Go.Proofs.YtgioabhamihfmaaGreatDoor
open Go Go.Vcg

section
variable {T : Tb}
attribute [local simp] isMl VCopsM mstep mchk lchk kchk IOp.isB k_seq k_block k_skip k_reg k_alt k_cond k_exit k_ret kf_nil kf_seq_n kf_seq_e kf_seq_r kf_blk_n kf_blk_e kf_blk_r kf_lp_n kf_lp_e kf_lp_r kf_cut_n kf_cut_e kf_cut_r mkTm VCops VCalt istep act gd applyE wrapD Opd.ev get_mk set_mk set_mk0 tget16 tset16 tget_0 tset_0 tget_1 tset_1 tget_2 tset_2 tget_3 tset_3 tget_4 tset_4 tget_5 tset_5 tget_6 tset_6 tget_7 tset_7 tget_8 tset_8 tget_9 tset_9 tget_10 tset_10 tget_11 tset_11 tget_12 tset_12 tget_13 tset_13 tget_14 tset_14 tget_15 tset_15 D.un D.gu gus IOp.opds binD fnPost getRes IRes.get oneRes D.out outL D.clos closL D.norow norowL D.lv lvL D.scal scalL D.cells D.cell D.cell' St.lk obPut obDel List.lookup cut pickD splice fillParts fillRows elem_cons newsOf D.pl D.forget forgetL Ob.forget forgetO eqCells sg leD leDL leOb apartK St.le D.keys keysL D.rows rowsL obKeys addKeys reach pos D.ren renL Ob.ren inM outM inObs outObs goneK apartN okNames_eq okNms obNms namesOK_nil namesOK_cons freeOK_nil freeOK_cons D.frz frzL Ob.frz frzO St.frz forgetLs dropObs putObs hcall freeOf keeps baseN shD isShift shMax k_bad VCopsG frz_nil actx actc cnum vwCut St.frzT St.opnT St.clsT D.opn opnL Ob.opn opnO VCou VCcx St.oneS D.objI D.objK St.objP St.objQ St.pathR St.pathI pathL scrL D.scr St.opnS St.clsS D.cellS D.fzs fzsL k_mrk k_mrq IOper.gh St.bxS D.tob tobL Ob.tob tobO zI zC zw zz zg zm zi zb zf zl za zs zn zo zd zy zu ze zk zt zc zp
set_option maxRecDepth 100000 in
theorem v_ClI : Verified T ir_slices_Clone_reredos_api_Item_reredos_api_Item (sp_Cl0 3) := by
  refine Verified.mk ?_
  rintro ds rfl
  rw [cl0_F]
  simp (implicitDefEqProofs := false) [ir_slices_Clone_reredos_api_Item_reredos_api_Item]
set_option maxRecDepth 100000 in
theorem v_ClL : Verified T ir_slices_Clone_reredos_api_Lock_reredos_api_Lock (sp_Cl0 6) := by
  refine Verified.mk ?_
  rintro ds rfl
  rw [cl0_F]
  simp (implicitDefEqProofs := false) [ir_slices_Clone_reredos_api_Lock_reredos_api_Lock]
set_option maxRecDepth 100000 in
theorem v_ClD : Verified T ir_slices_Clone_reredos_api_Doubt_reredos_api_Doubt (sp_Cl0 3) := by
  refine Verified.mk ?_
  rintro ds rfl
  rw [cl0_F]
  simp (implicitDefEqProofs := false) [ir_slices_Clone_reredos_api_Doubt_reredos_api_Doubt]
set_option maxRecDepth 100000 in
theorem v_ClT : Verified T ir_slices_Clone_reredos_api_Txn_reredos_api_Txn (sp_Cl0 2) := by
  refine Verified.mk ?_
  rintro ds rfl
  rw [cl0_F]
  simp (implicitDefEqProofs := false) [ir_slices_Clone_reredos_api_Txn_reredos_api_Txn]
set_option maxRecDepth 100000 in
theorem v_SChk0 (h1 : T.sp n_store_items = some (sp_B0 (.fz 3 []))) (h2 : T.sp n_store_doubts = some (sp_B0 (.agg eSto))) (h3 : T.sp n_store_locks = some (sp_B0 (.agg eSto))) : Verified T ir_store_Check sp_SChk0 := by
  refine Verified.mk ?_
  rintro ds rfl
  rw [schk_F]
  have x1 : (sp_B0 (.fz 3 [])).hx = none := rfl
  have x2 : (sp_B0 (.agg eSto)).hx = none := rfl
  have f1 := b0_F (.fz 3 [])
  have p1 := b0_pre (.fz 3 [])
  have f2 := b0_F (.agg eSto)
  have p2 := b0_pre (.agg eSto)
  unfold eSto at *
  simp (implicitDefEqProofs := false) (maxSteps := 10000000) [ir_store_Check, h1, h2, h3, x1, x2, f1, p1, f2, p2]
set_option maxRecDepth 100000 in
theorem v_items0 : Verified T ir_store_items (sp_B0 (.fz 3 [])) := by
  refine Verified.mk ?_
  rintro ds rfl
  rw [b0_F]
  simp (implicitDefEqProofs := false) (maxSteps := 10000000) [ir_store_items]
  refine k_loop (ι := Unit) (fun y => ⟨mkTm 54 0 [(5, .fz 3 []), (6, .int .i64 0), (7, .int .i64 0)], []⟩) (fun y => 0) [] () (by simp (implicitDefEqProofs := false) (maxSteps := 10000000)) ?_
  rintro _ Q hQ
  clear hQ
  simp (implicitDefEqProofs := false) (maxSteps := 10000000) [ir_store_items_b0, ir_store_items_r1]
set_option maxRecDepth 100000 in
theorem v_locks0 : Verified T ir_store_locks (sp_B0 (.agg eSto)) := by
  refine Verified.mk ?_
  rintro ds rfl
  rw [b0_F]
  unfold eSto
  simp (implicitDefEqProofs := false) (maxSteps := 10000000) [ir_store_locks]
  refine k_loop (ι := Unit) (fun y => ⟨mkTm 98 0 [(1, .own 1 0), (8, .fz 6 []), (9, .int .i64 0), (10, .int .i64 0)], [(1, .box [.fz 3 [], .fz 6 [], .fz 3 [], .fz 2 []])]⟩) (fun y => 0) [] () (by simp (implicitDefEqProofs := false) (maxSteps := 10000000)) ?_
  rintro _ Q hQ
  clear hQ
  simp (implicitDefEqProofs := false) (maxSteps := 10000000) [ir_store_locks_b2, ir_store_locks_r3]
set_option maxRecDepth 100000 in
theorem v_doubts0 : Verified T ir_store_doubts (sp_B0 (.agg eSto)) := by
  refine Verified.mk ?_
  rintro ds rfl
  rw [b0_F]
  unfold eSto
  simp (implicitDefEqProofs := false) (maxSteps := 10000000) [ir_store_doubts]
  refine k_loop (ι := Unit) (fun y => ⟨mkTm 79 0 [(1, .own 1 0), (10, .fz 3 []), (11, .int .i64 0), (12, .int .i64 0)], [(1, .box [.fz 3 [], .fz 6 [], .fz 3 [], .fz 2 []])]⟩) (fun y => 0) [] () (by simp (implicitDefEqProofs := false) (maxSteps := 10000000)) ?_
  rintro _ Q hQ
  clear hQ
  simp (implicitDefEqProofs := false) (maxSteps := 10000000) [ir_store_doubts_b2, ir_store_doubts_r5]
  refine k_loop (ι := Unit) (fun y => ⟨mkTm 79 0 [(1, .own 1 0), (60, .fz 2 []), (61, .int .i64 0), (62, .int .i64 0)], [(1, .box [.fz 3 [], .fz 6 [], .fz 3 [], .fz 2 []])]⟩) (fun y => 0) [] () (by simp (implicitDefEqProofs := false) (maxSteps := 10000000)) ?_
  rintro _ Q hQ
  clear hQ
  simp (implicitDefEqProofs := false) (maxSteps := 10000000) [ir_store_doubts_b3, ir_store_doubts_r4]
end
end Go.Proofs.YtgioabhamihfmaaGreatDoor
