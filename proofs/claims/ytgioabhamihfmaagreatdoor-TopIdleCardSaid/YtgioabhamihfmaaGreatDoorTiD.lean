/-
  Where nothing is: a site's ticks, a coordinator's ticks, and what is rebuilt. Conditions: those of each specification's 'pre', and that the functions that are called are what theirs say.
-/
import Derived.Test.YtgioabhamihfmaaGreatDoorTiC
set_option linter.unusedVariables false
set_option linter.unusedSimpArgs false
namespace Go.Proofs.YtgioabhamihfmaaGreatDoor
open Go Go.Vcg

/-! ### Stores, by their sites -/
def sp_SOwn0 : Sp := spC (fun ds => ds = [.agg eSto]) (.agg eSto)
def pAge (ds : List D) : Prop := ∃ P : Int, ds = [.agg eSto, .int .i64 P] ∧ 1 ≤ P ∧ P ≤ 1048576
theorem pAge_eq {P : Int} (h : 1 ≤ P ∧ P ≤ 1048576) : pAge [.agg eSto, .int .i64 P] = True := by simp only [pAge, eq_iff_iff, iff_true]; exact ⟨P, rfl, h⟩
def sp_Age0 : Sp := spC pAge (.tup [.agg eSto, .fz 2 [], .int .i64 0])
def eAns : List D := [.fz 3 [], .fz 6 [], .fz 3 [], .fz 2 [], .fz 12 [], .fz 8 [], .fz 4 []]
def sp_POwn0 : Sp := spC (fun ds => ds = [.agg eAns, .fz 4 []]) (.agg eAns)
/-- A site: its box, and its stores. -/
def siteOb (S : Int) (cs : List (List D)) (P l me : Int) (n : Nat) : List (Nat × Ob) :=
  [(1000000000, .box [.int .i64 S, .fz 2 cs, .int .i64 P, .int .i64 l, .int .i64 me, .row 1000000001]), (1000000001, .row 4 (List.replicate n eSto))]
def pSite (ds : List D) (ob : List (Nat × Ob)) : Prop := ∃ S ls P l me, ds = [.own 1000000000 0] ∧ ob = siteOb S (ls.map lbc) P l me ls.length ∧ okC S ls P ∧ (0 ≤ l ∧ l < ls.length) ∧ (0 ≤ me ∧ me < S)
theorem pSite_eq {S : Int} {ls : List (Int × Int)} {P l me : Int} (h : okC S ls P) (hl : 0 ≤ l ∧ l < ls.length) (hm : 0 ≤ me ∧ me < S) : pSite [.own 1000000000 0] (siteOb S (ls.map lbc) P l me ls.length) = True := by
  simp only [pSite, eq_iff_iff, iff_true]; exact ⟨S, ls, P, l, me, trivial, rfl, h, hl, hm⟩
def sp_Site0 : Sp := spI pSite (.int .i64 0)
def pTick (ds : List D) (ob : List (Nat × Ob)) : Prop := ∃ S ls P l me, ds = [cfgD S ls P, .int .i64 l, .int .i64 me, .row 1000000000] ∧ ob = [(1000000000, .row 4 (List.replicate ls.length eSto))] ∧ okC S ls P ∧ (0 ≤ l ∧ l < ls.length) ∧ (0 ≤ me ∧ me < S)
theorem pTick_eq {S : Int} {ls : List (Int × Int)} {P l me : Int} (h : okC S ls P) (hl : 0 ≤ l ∧ l < ls.length) (hm : 0 ≤ me ∧ me < S) : pTick [cfgD S ls P, .int .i64 l, .int .i64 me, .row 1000000000] [(1000000000, .row 4 (List.replicate ls.length eSto))] = True := by
  simp only [pTick, eq_iff_iff, iff_true]; exact ⟨S, ls, P, l, me, rfl, rfl, h, hl, hm⟩
def sp_PTick0 : Sp := spI pTick (.tup [.agg eAns, .int .i64 0])

/-! ### Desks -/
def eDesk : List D := [.int .i64 1, .fz 6 []]
def sp_DChk0 : Sp := spC (pCfg2 (.agg eDesk)) (.int .i64 0)
def sp_DOwn0 : Sp := spC (fun ds => ds = [.agg eDesk]) (.agg eDesk)
def pCfg4 (x : D) (ds : List D) : Prop := ∃ S ls P l me, ds = [cfgD S ls P, .int .i64 l, .int .i64 me, x] ∧ okC S ls P ∧ (0 ≤ l ∧ l < ls.length) ∧ (0 ≤ me ∧ me < S)
theorem pCfg4_eq {S : Int} {ls : List (Int × Int)} {P l me : Int} (x : D) (h : okC S ls P) (hl : 0 ≤ l ∧ l < (ls.length : Int)) (hm : 0 ≤ me ∧ me < S) : pCfg4 x [cfgD S ls P, .int .i64 l, .int .i64 me, x] = True := by
  simp only [pCfg4, eq_iff_iff, iff_true]; exact ⟨S, ls, P, l, me, rfl, h, hl, hm⟩
def begF (ds : List D) : D × List (Nat × Ob) :=
  match ds with
  | [.agg [S, cs, P], l, me, _] => (.tup [.own 1 0, .int .i64 0], [(1, .box [S, cs, P, l, me, .int .i64 1, .fz 6 [], .nl 12, .nl 8, .nl 6, .int .i64 0, .int .i64 0])])
  | _ => (.any, [])
def hs_Beg0 : HSp := ⟨fun ds ob => ob = [] ∧ pCfg4 (.agg eDesk) ds, fun ds _ => begF ds⟩
def sp_Beg0 : Sp := { pre := fun _ => True, F := fun _ => .any, hx := some hs_Beg0 }
theorem beg_hx : sp_Beg0.hx = some hs_Beg0 := rfl
theorem beg_F (S P l me x : D) (cs : D) (ob : List (Nat × Ob)) : hs_Beg0.F [.agg [S, cs, P], l, me, x] ob = (.tup [.own 1 0, .int .i64 0], [(1, .box [S, cs, P, l, me, .int .i64 1, .fz 6 [], .nl 12, .nl 8, .nl 6, .int .i64 0, .int .i64 0])]) := rfl
theorem beg_pre (ds : List D) : hs_Beg0.pre ds [] = pCfg4 (.agg eDesk) ds := by simp [hs_Beg0]
def eTurn : List D := [.int .i64 1, .fz 6 [], .fz 12 [], .fz 8 [], .fz 6 [], .int .i64 0, .int .i64 0]
def sp_CTick0 : Sp := spC (pCfg4 (.agg eDesk)) (.tup [.agg eTurn, .int .i64 0])
def pReb (ds : List D) : Prop := ∃ S ls P me, ds = [cfgD S ls P, .int .i64 me, .fz 8 []] ∧ okC S ls P ∧ (0 ≤ me ∧ me < S)
theorem pReb_eq {S : Int} {ls : List (Int × Int)} {P me : Int} (h : okC S ls P) (hm : 0 ≤ me ∧ me < S) : pReb [cfgD S ls P, .int .i64 me, .fz 8 []] = True := by
  simp only [pReb, eq_iff_iff, iff_true]; exact ⟨S, ls, P, me, rfl, h, hm⟩
def sp_Reb0 : Sp := spC pReb (.tup [.agg eSto, .agg eDesk, .fz 4 [], .int .i64 0])

section
variable {T : Tb}
attribute [local simp] isMl VCopsM mstep mchk lchk kchk IOp.isB k_seq k_block k_skip k_reg k_alt k_cond k_exit k_ret kf_nil kf_seq_n kf_seq_e kf_seq_r kf_blk_n kf_blk_e kf_blk_r kf_lp_n kf_lp_e kf_lp_r kf_cut_n kf_cut_e kf_cut_r mkTm VCops VCalt istep act gd applyE wrapD Opd.ev get_mk set_mk set_mk0 tget16 tset16 tget_0 tset_0 tget_1 tset_1 tget_2 tset_2 tget_3 tset_3 tget_4 tset_4 tget_5 tset_5 tget_6 tset_6 tget_7 tset_7 tget_8 tset_8 tget_9 tset_9 tget_10 tset_10 tget_11 tset_11 tget_12 tset_12 tget_13 tset_13 tget_14 tset_14 tget_15 tset_15 D.un D.gu gus IOp.opds binD fnPost getRes IRes.get oneRes D.out outL D.clos closL D.norow norowL D.lv lvL D.scal scalL D.cells D.cell D.cell' St.lk obPut obDel List.lookup cut pickD splice fillParts fillRows elem_cons newsOf D.pl D.forget forgetL Ob.forget forgetO eqCells sg leD leDL leOb apartK St.le D.keys keysL D.rows rowsL obKeys addKeys reach pos D.ren renL Ob.ren inM outM inObs outObs goneK apartN okNames_eq okNms obNms namesOK_nil namesOK_cons freeOK_nil freeOK_cons D.frz frzL Ob.frz frzO St.frz forgetLs dropObs putObs hcall freeOf keeps baseN shD isShift shMax k_bad VCopsG frz_nil actx actc cnum vwCut St.frzT St.opnT St.clsT D.opn opnL Ob.opn opnO VCou VCcx St.oneS D.objI D.objK St.objP St.objQ St.pathR St.pathI pathL scrL D.scr St.opnS St.clsS D.cellS D.fzs fzsL k_mrk k_mrq IOper.gh St.bxS D.tob tobL Ob.tob tobO zI zC zw zz zg zm zi zb zf zl za zs zn zo zd zy zu ze zk zt zc zp
set_option maxRecDepth 100000 in
theorem v_SOwn0 (h1 : T.sp n_slices_Clone_reredos_api_Item_reredos_api_Item = some (sp_Cl0 3)) (h2 : T.sp n_slices_Clone_reredos_api_Lock_reredos_api_Lock = some (sp_Cl0 6)) (h3 : T.sp n_slices_Clone_reredos_api_Doubt_reredos_api_Doubt = some (sp_Cl0 3)) (h4 : T.sp n_slices_Clone_reredos_api_Txn_reredos_api_Txn = some (sp_Cl0 2)) : Verified T ir_store_own sp_SOwn0 := by
  refine Verified.mk ?_
  rintro ds rfl
  simp only [sp_SOwn0]
  rw [spC_F]
  have x (n : Nat) : (sp_Cl0 n).hx = none := rfl
  unfold eSto
  simp (implicitDefEqProofs := false) (maxSteps := 10000000) [ir_store_own, h1, h2, h3, h4, x, cl0_F, cl0_pre]
set_option maxRecDepth 100000 in
theorem v_Age0 (h1 : T.sp n_store_Check = some sp_SChk0) (h2 : T.sp n_store_own = some sp_SOwn0) : Verified T ir_store_Age sp_Age0 := by
  refine Verified.mk ?_
  rintro ds ⟨P, rfl, hP⟩
  simp only [sp_Age0]
  rw [spC_F]
  have x1 : sp_SChk0.hx = none := rfl
  have f1 := schk_F
  have p1 := schk_pre
  unfold sp_SOwn0 at h2
  have q1 : ¬ P < 1 := by omega
  have q2 : ¬ 1048576 < P := by omega
  unfold eSto at *
  simp (implicitDefEqProofs := false) (maxSteps := 10000000) [ir_store_Age, h1, x1, f1, p1, h2, spC_hx, spC_F, spC_pre, q1, q2]
  refine k_loop (ι := Unit) (fun y => ⟨mkTm 63 0 [(1, .int .i64 P), (4, .own 4 0), (8, .own 8 0), (9, .nl 2), (29, .int .i64 0), (30, .int .i64 0)], [(4, .box [.nl 3, .nl 6, .nl 3, .nl 2]), (8, .box [.fz 3 [], .fz 6 [], .fz 3 [], .fz 2 []])]⟩) (fun y => 0) [] () (by simp (implicitDefEqProofs := false) (maxSteps := 10000000)) ?_
  rintro _ Q hQ
  clear hQ
  simp (implicitDefEqProofs := false) (maxSteps := 10000000) [ir_store_Age_b0, ir_store_Age_r1]
set_option maxRecDepth 100000 in
theorem v_POwn0 (h1 : T.sp n_slices_Clone_reredos_api_Item_reredos_api_Item = some (sp_Cl0 3)) (h2 : T.sp n_slices_Clone_reredos_api_Lock_reredos_api_Lock = some (sp_Cl0 6)) (h3 : T.sp n_slices_Clone_reredos_api_Doubt_reredos_api_Doubt = some (sp_Cl0 3)) (h4 : T.sp n_slices_Clone_reredos_api_Txn_reredos_api_Txn = some (sp_Cl0 2)) : Verified T ir_part_own sp_POwn0 := by
  refine Verified.mk ?_
  rintro ds rfl
  simp only [sp_POwn0]
  rw [spC_F]
  have x (n : Nat) : (sp_Cl0 n).hx = none := rfl
  unfold eAns
  simp (implicitDefEqProofs := false) (maxSteps := 10000000) [ir_part_own, h1, h2, h3, h4, x, cl0_F, cl0_pre]
set_option maxRecDepth 100000 in
set_option maxHeartbeats 4000000 in
theorem v_Site0 (h1 : T.sp n_label_Check = some sp_Check) (h2 : T.sp n_store_Check = some sp_SChk0) : Verified T ir_part_site_check sp_Site0 := by
  refine Verified.mkx (hs := hsI pSite (.int .i64 0)) rfl ?_
  rintro ds ob ⟨S, ls, P, l, me, rfl, rfl, hc, hl, hm⟩ R hR
  rw [hsI_F] at hR
  have x1 : sp_Check.hx = none := rfl
  have f1 := chk_F hc
  have p1 := chk_pre (S := S) (ls := ls) (P := P)
  have x2 : sp_SChk0.hx = none := rfl
  have f2 := schk_F
  have p2 := schk_pre
  have q1 : ¬ l < 0 := by omega
  have q2 : ¬ (ls.length : Int) ≤ l := by omega
  have q3 : ¬ me < 0 := by omega
  have q4 : ¬ S ≤ me := by omega
  have hlen : (ls.map lbc).length = ls.length := by simp
  have hn := hc.2.2
  generalize hcs : ls.map lbc = cs at *
  generalize ls.length = n at *
  simp only [cfgD, hcs] at f1 p1
  simp only [siteOb] at hR ⊢
  unfold eSto at *
  simp (implicitDefEqProofs := false) (maxSteps := 10000000) [ir_part_site_check, h1, x1, f1, p1, q1, q2, q3, q4, hlen]
  refine k_loop (ι := {i : Nat // i ≤ n}) (fun y => ⟨mkTm 77 0 [(65, .row 1000000001), (66, .int .i64 n), (67, .int .i64 y.1)], [(1000000000, .box [.int .i64 S, .fz 2 cs, .int .i64 P, .int .i64 l, .int .i64 me, .row 1000000001]), (1000000001, .row 4 (List.replicate n [.fz 3 [], .fz 6 [], .fz 3 [], .fz 2 []]))]⟩)
    (fun y => n - y.1) [] ⟨0, by omega⟩ (by simp (implicitDefEqProofs := false) (maxSteps := 10000000)) ?_
  rintro ⟨i, hi⟩ Q hQ
  simp only at hQ
  by_cases h : i < n
  · have hil : (i : Int) < n := by omega
    have he := elem_rep [.fz 3 [], .fz 6 [], .fz 3 [], .fz 2 []] h
    simp (implicitDefEqProofs := false) (maxSteps := 10000000) [ir_part_site_check_b0, hil, h, he, h2, x2, f2, p2]
    exact ⟨by simp only [inR]; omega, hQ _ [] ⟨i + 1, by omega⟩ (by simp (implicitDefEqProofs := false) (maxSteps := 10000000)) (by simp only; omega)⟩
  · have hin : i = n := by omega
    subst hin
    simp (implicitDefEqProofs := false) (maxSteps := 10000000) [ir_part_site_check_b0, ir_part_site_check_r1]
    exact hR _ [] (by simp (implicitDefEqProofs := false) (maxSteps := 10000000))
set_option maxRecDepth 100000 in
set_option maxHeartbeats 4000000 in
theorem v_PTick0 (h1 : T.sp n_part_site_check = some sp_Site0) (h2 : T.sp n_store_Age = some sp_Age0) (h3 : T.sp n_part_own = some sp_POwn0) : Verified T ir_part_Tick sp_PTick0 := by
  refine Verified.mkx (hs := hsI pTick (.tup [.agg eAns, .int .i64 0])) rfl ?_
  rintro ds ob ⟨S, ls, P, l, me, rfl, rfl, hc, hl, hm⟩ R hR
  rw [hsI_F] at hR
  unfold sp_Site0 at h1
  have p1 := pSite_eq hc hl hm
  unfold sp_Age0 at h2
  have p2 := pAge_eq (okC_P hc)
  unfold sp_POwn0 at h3
  have he := elem_rep (n := ls.length) (i := l.toNat) eSto (by omega)
  have hl1 : l < ls.length := hl.2
  have hl0 : 0 ≤ l := hl.1
  have hn := hc.2.2
  generalize hcs : ls.map lbc = cs at *
  generalize ls.length = n at *
  simp only [siteOb] at p1
  simp only [cfgD, hcs] at hR ⊢
  unfold eAns at *
  unfold eSto at *
  simp (implicitDefEqProofs := false) (maxSteps := 10000000) [ir_part_Tick, h1, spI_hx, hsI_F, hsI_pre, p1, h2, spC_hx, spC_F, spC_pre, p2, he, hl0, hl1]
  refine k_loop (ι := Unit) (fun y => ⟨mkTm 67 0 [(4, .own 4 0), (8, .own 8 0), (15, .own 15 0), (43, .fz 2 []), (44, .int .i64 0), (45, .int .i64 0)], [(1000000000, .row 4 (List.replicate n [.fz 3 [], .fz 6 [], .fz 3 [], .fz 2 []])), (4, .box [.int .i64 S, .fz 2 cs, .int .i64 P]), (8, .box [.nl 3, .nl 6, .nl 3, .nl 2, .nl 12, .nl 8, .nl 4]), (15, .box [.fz 3 [], .fz 6 [], .fz 3 [], .fz 2 [], .nl 12, .nl 8, .nl 4])]⟩) (fun y => 0) [] () (by simp (implicitDefEqProofs := false) (maxSteps := 10000000)) ?_
  rintro _ Q hQ
  clear hQ
  simp (implicitDefEqProofs := false) (maxSteps := 10000000) [ir_part_Tick_b0, ir_part_Tick_r1, h3, spC_hx, spC_F, spC_pre]
  exact hR _ [] (by simp (implicitDefEqProofs := false) (maxSteps := 10000000))
set_option maxRecDepth 100000 in
set_option maxHeartbeats 4000000 in
theorem v_DChk0 (h1 : T.sp n_label_Check = some sp_Check) : Verified T ir_coord_Check sp_DChk0 := by
  refine Verified.mk ?_
  rintro ds ⟨S, ls, P, rfl, hc⟩
  simp only [sp_DChk0]
  rw [spC_F]
  have x1 : sp_Check.hx = none := rfl
  have f1 := chk_F hc
  have p1 := chk_pre (S := S) (ls := ls) (P := P)
  generalize hcs : ls.map lbc = cs
  simp only [cfgD, hcs] at f1 p1 ⊢
  unfold eDesk
  simp (implicitDefEqProofs := false) (maxSteps := 10000000) [ir_coord_Check, h1, x1, f1, p1]
  refine k_loop (ι := Unit) (fun y => ⟨mkTm 57 0 [(2, .own 2 0), (3, .own 3 0), (28, .fz 6 []), (29, .int .i64 0), (30, .int .i64 0)], [(2, .box [.int .i64 S, .fz 2 cs, .int .i64 P]), (3, .box [.int .i64 1, .fz 6 []])]⟩) (fun y => 0) [] () (by simp (implicitDefEqProofs := false) (maxSteps := 10000000)) ?_
  rintro _ Q hQ
  clear hQ
  simp (implicitDefEqProofs := false) (maxSteps := 10000000) [ir_coord_Check_b0, ir_coord_Check_r1]
set_option maxRecDepth 100000 in
theorem v_DOwn0 : Verified T ir_coord_own sp_DOwn0 := by
  refine Verified.mk ?_
  rintro ds rfl
  simp only [sp_DOwn0]
  rw [spC_F]
  unfold eDesk
  simp (implicitDefEqProofs := false) (maxSteps := 10000000) [ir_coord_own]
  refine k_loop (ι := Unit) (fun y => ⟨mkTm 32 0 [(2, .own 2 0), (3, .own 3 0), (10, .fz 6 []), (11, .int .i64 0), (12, .int .i64 0)], [(2, .box [.int .i64 0, .nl 6]), (3, .box [.int .i64 1, .nl 6])]⟩) (fun y => 0) [] () (by simp (implicitDefEqProofs := false) (maxSteps := 10000000)) ?_
  rintro _ Q hQ
  clear hQ
  simp (implicitDefEqProofs := false) (maxSteps := 10000000) [ir_coord_own_b0, ir_coord_own_r1]
set_option maxRecDepth 100000 in
set_option maxHeartbeats 4000000 in
theorem v_Beg0 (h1 : T.sp n_coord_Check = some sp_DChk0) (h2 : T.sp n_coord_own = some sp_DOwn0) : Verified T ir_coord_begin sp_Beg0 := by
  refine Verified.mkx (hs := hs_Beg0) rfl ?_
  rintro ds ob ⟨rfl, S, ls, P, l, me, rfl, hc, hl, hm⟩ R hR
  unfold sp_DChk0 at h1
  unfold sp_DOwn0 at h2
  have p1 := pCfg2_eq (.agg eDesk) hc
  have q1 : ¬ l < 0 := by omega
  have q2 : ¬ (ls.length : Int) ≤ l := by omega
  have q3 : ¬ me < 0 := by omega
  have q4 : ¬ S ≤ me := by omega
  have hlen : (ls.map lbc).length = ls.length := by simp
  generalize hcs : ls.map lbc = cs at *
  generalize ls.length = n at *
  simp only [cfgD, hcs] at p1 hR ⊢
  rw [beg_F] at hR
  unfold eDesk at *
  simp (implicitDefEqProofs := false) (maxSteps := 10000000) [ir_coord_begin, h1, h2, spC_hx, spC_F, spC_pre, p1, q1, q2, q3, q4, hlen]
  exact hR _ [(1, some 41)] (by simp (implicitDefEqProofs := false) (maxSteps := 10000000))
set_option maxRecDepth 100000 in
set_option maxHeartbeats 4000000 in
theorem v_CTick0 (h1 : T.sp n_coord_begin = some sp_Beg0) : Verified T ir_coord_Tick sp_CTick0 := by
  refine Verified.mk ?_
  rintro ds ⟨S, ls, P, l, me, rfl, hc, hl, hm⟩
  simp only [sp_CTick0]
  rw [spC_F]
  have p1 := pCfg4_eq (.agg eDesk) hc hl hm
  generalize hcs : ls.map lbc = cs at *
  simp only [cfgD, hcs] at p1 ⊢
  unfold eDesk at *
  unfold eTurn
  simp (implicitDefEqProofs := false) (maxSteps := 10000000) [ir_coord_Tick, h1, beg_hx, beg_F, beg_pre, p1, eDesk]
  refine k_loop (ι := Unit) (fun y => ⟨mkTm 72 0 [(8, .own 8 0), (10, .own 210001 0), (28, .fz 6 []), (29, .int .i64 0), (30, .int .i64 0)], [(8, .box [.int .i64 0, .nl 6, .nl 12, .nl 8, .nl 6, .int .i64 0, .int .i64 0]), (210001, .box [.int .i64 S, .fz 2 cs, .int .i64 P, .int .i64 l, .int .i64 me, .int .i64 1, .fz 6 [], .nl 12, .nl 8, .nl 6, .int .i64 0, .int .i64 0])]⟩) (fun y => 0) [] () (by simp (implicitDefEqProofs := false) (maxSteps := 10000000)) ?_
  rintro _ Q hQ
  clear hQ
  simp (implicitDefEqProofs := false) (maxSteps := 10000000) [ir_coord_Tick_b0, ir_coord_Tick_r1]
set_option maxRecDepth 100000 in
set_option maxHeartbeats 4000000 in
theorem v_Reb0 (h1 : T.sp n_label_Check = some sp_Check) : Verified T ir_recover_Rebuild sp_Reb0 := by
  refine Verified.mk ?_
  rintro ds ⟨S, ls, P, me, rfl, hc, hm⟩
  simp only [sp_Reb0]
  rw [spC_F]
  have x1 : sp_Check.hx = none := rfl
  have f1 := chk_F hc
  have p1 := chk_pre (S := S) (ls := ls) (P := P)
  have q3 : ¬ me < 0 := by omega
  have q4 : ¬ S ≤ me := by omega
  generalize hcs : ls.map lbc = cs
  simp only [cfgD, hcs] at f1 p1 ⊢
  unfold eDesk
  unfold eSto
  simp (implicitDefEqProofs := false) (maxSteps := 10000000) [ir_recover_Rebuild, h1, x1, f1, p1, q3, q4]
  refine k_loop (ι := Unit) (fun y => ⟨mkTm 75 0 [(1, .int .i64 me), (2, .fz 8 []), (3, .own 3 0), (6, .own 6 0), (7, .own 7 0), (34, .fz 8 []), (35, .int .i64 0), (36, .int .i64 0)], [(3, .box [.int .i64 S, .fz 2 cs, .int .i64 P]), (6, .box [.nl 3, .nl 6, .nl 3, .nl 2]), (7, .box [.int .i64 0, .nl 6])]⟩) (fun y => 0) [] () (by simp (implicitDefEqProofs := false) (maxSteps := 10000000)) ?_
  rintro _ Q hQ
  clear hQ
  simp (implicitDefEqProofs := false) (maxSteps := 10000000) [ir_recover_Rebuild_b0, ir_recover_Rebuild_r3]
  refine k_loop (ι := Unit) (fun y => ⟨mkTm 75 0 [(3, .own 3 0), (6, .own 6 0), (7, .own 7 0), (14, .own 52 0), (53, .fz 8 []), (54, .int .i64 0), (55, .int .i64 0)], [(3, .box [.int .i64 S, .fz 2 cs, .int .i64 P]), (6, .box [.nl 3, .nl 6, .nl 3, .nl 2]), (7, .box [.int .i64 0, .nl 6]), (52, .box [.int .i64 me, .nl 3, .nl 6, .nl 3, .nl 2, .int .i64 1, .nl 6, .nl 4])]⟩) (fun y => 0) [] () (by simp (implicitDefEqProofs := false) (maxSteps := 10000000)) ?_
  rintro _ Q2 hQ2
  clear hQ2
  simp (implicitDefEqProofs := false) (maxSteps := 10000000) [ir_recover_Rebuild_b1, ir_recover_Rebuild_r2]
  done
end
end Go.Proofs.YtgioabhamihfmaaGreatDoor
