/-
  Where nothing is: what is seen of it. Conditions: those of each specification's 'pre', and that the functions that are called are what theirs say.
-/
import Derived.Test.YtgioabhamihfmaaGreatDoorTiF
set_option linter.unusedVariables false
set_option linter.unusedSimpArgs false
namespace Go.Proofs.YtgioabhamihfmaaGreatDoor
open Go Go.Vcg

def sp_Copy0 : Sp := spC (fun ds => ds = [.agg eSto]) (.agg eSto)
/-- A world behind its view, and the view. -/
def wV (n : Nat) : List D := [.sub 2 (List.replicate n eTape), .sub 2 (List.replicate n eDesk), .sub 1 (List.replicate n [.fz 4 []]), flyE (n * n), .fz 6 [], .fz 1 []]
def vwD (n : Nat) : D := .agg [.fz 6 [], .fz 1 [], flyE (n * n), .fz 2 (List.replicate n eTape), .fz 4 (List.replicate n eSto), .fz 1 (List.replicate n [.fz 4 []])]
def vOb (S : Int) (cs us : List (List D)) (P t : Int) (L n : Nat) (ws : List (List D)) : List (Nat × Ob) :=
  [(1000000000, .box [.int .i64 S, .fz 2 cs, .int .i64 P, .row 1000000001, .row 1000000002, .fz 1 us, .int .i64 t, .nl 1]), (1000000001, .rws 1 ws), (1000000002, storesO L n)]
def pVw (ds : List D) (ob : List (Nat × Ob)) : Prop :=
  ∃ (n l L : Nat) (cs us : List (List D)) (P t : Int) (ws : List (List D)), ds = [.own 1000000000 0, .int .i64 l] ∧ ob = vOb n cs us P t L n ws ∧ l < L ∧ L ≤ 6 ∧ n ≤ 4 ∧ ws.length = L ∧ elem ws l = [.sbx (wC n)]
theorem pVw_eq {n l L : Nat} {cs us : List (List D)} {P t : Int} {ws : List (List D)} (hl : l < L) (hL : L ≤ 6) (hn : n ≤ 4) (hw : ws.length = L) (he : elem ws l = [.sbx (wC n)]) : pVw [.own 1000000000 0, .int .i64 l] (vOb n cs us P t L n ws) = True := by
  simp only [pVw, eq_iff_iff, iff_true]; exact ⟨n, l, L, cs, us, P, t, ws, rfl, rfl, hl, hL, hn, hw, he⟩
def hs_View : HSp := ⟨pVw, fun ds ob => match ds, ob with
  | [_, .int _ l], (a, .box (.int b n :: r)) :: (c, .rws z ws) :: q => (vwD n.toNat, (a, .box (.int b n :: r)) :: (c, .rws z (ws.set l.toNat [.sbx (wV n.toNat)])) :: q)
  | _, _ => (.any, [])⟩
def sp_View0 : Sp := { pre := fun _ => True, F := fun _ => .any, hx := some hs_View }
theorem view_hx : sp_View0.hx = some hs_View := rfl
theorem view_pre : hs_View.pre = pVw := rfl
theorem view_F (x : D) (l n : Int) (a c z : Nat) (r : List D) (ws : List (List D)) (q : List (Nat × Ob)) : hs_View.F [x, .int .i64 l] ((a, .box (.int .i64 n :: r)) :: (c, .rws z ws) :: q) = (vwD n.toNat, (a, .box (.int .i64 n :: r)) :: (c, .rws z (ws.set l.toNat [.sbx (wV n.toNat)])) :: q) := rfl

section
variable {T : Tb}
attribute [local simp] isMl VCopsM mstep mchk lchk kchk IOp.isB k_seq k_block k_skip k_reg k_alt k_cond k_exit k_ret kf_nil kf_seq_n kf_seq_e kf_seq_r kf_blk_n kf_blk_e kf_blk_r kf_lp_n kf_lp_e kf_lp_r kf_cut_n kf_cut_e kf_cut_r mkTm VCops VCalt istep act gd applyE wrapD Opd.ev get_mk set_mk set_mk0 tget16 tset16 tget_0 tset_0 tget_1 tset_1 tget_2 tset_2 tget_3 tset_3 tget_4 tset_4 tget_5 tset_5 tget_6 tset_6 tget_7 tset_7 tget_8 tset_8 tget_9 tset_9 tget_10 tset_10 tget_11 tset_11 tget_12 tset_12 tget_13 tset_13 tget_14 tset_14 tget_15 tset_15 D.un D.gu gus IOp.opds binD fnPost getRes IRes.get oneRes D.out outL D.clos closL D.norow norowL D.lv lvL D.scal scalL D.cells D.cell D.cell' St.lk obPut obDel List.lookup cut pickD splice fillParts fillRows elem_cons newsOf D.pl D.forget forgetL Ob.forget forgetO eqCells sg leD leDL leOb apartK St.le D.keys keysL D.rows rowsL obKeys addKeys reach pos D.ren renL Ob.ren inM outM inObs outObs goneK apartN okNames_eq okNms obNms namesOK_nil namesOK_cons freeOK_nil freeOK_cons D.frz frzL Ob.frz frzO St.frz forgetLs dropObs putObs hcall freeOf keeps baseN shD isShift shMax k_bad VCopsG frz_nil actx actc cnum vwCut St.frzT St.opnT St.clsT D.opn opnL Ob.opn opnO VCou VCcx St.oneS D.objI D.objK St.objP St.objQ St.pathR St.pathI pathL scrL D.scr St.opnS St.clsS D.cellS D.fzs fzsL k_mrk k_mrq IOper.gh St.bxS D.tob tobL Ob.tob tobO zI zC zw zz zg zm zi zb zf zl za zs zn zo zd zy zu ze zk zt zc zp
set_option maxRecDepth 100000 in
theorem v_ClR : Verified T ir_slices_Clone_reredos_api_Reply_reredos_api_Reply (sp_Cl0 6) := by
  refine Verified.mk ?_
  rintro ds rfl
  rw [cl0_F]
  simp (implicitDefEqProofs := false) [ir_slices_Clone_reredos_api_Reply_reredos_api_Reply]
set_option maxRecDepth 100000 in
theorem v_ClS : Verified T ir_slices_Clone_string_string (sp_Cl0 1) := by
  refine Verified.mk ?_
  rintro ds rfl
  rw [cl0_F]
  simp (implicitDefEqProofs := false) [ir_slices_Clone_string_string]
set_option maxRecDepth 100000 in
theorem v_ClN : Verified T ir_slices_Clone_reredos_api_Note_reredos_api_Note (sp_Cl0 4) := by
  refine Verified.mk ?_
  rintro ds rfl
  rw [cl0_F]
  simp (implicitDefEqProofs := false) [ir_slices_Clone_reredos_api_Note_reredos_api_Note]
set_option maxRecDepth 100000 in
theorem v_Copy0 (h0 : T.sp n_store_Check = some sp_SChk0) (h1 : T.sp n_slices_Clone_reredos_api_Item_reredos_api_Item = some (sp_Cl0 3)) (h2 : T.sp n_slices_Clone_reredos_api_Lock_reredos_api_Lock = some (sp_Cl0 6)) (h3 : T.sp n_slices_Clone_reredos_api_Doubt_reredos_api_Doubt = some (sp_Cl0 3)) (h4 : T.sp n_slices_Clone_reredos_api_Txn_reredos_api_Txn = some (sp_Cl0 2)) : Verified T ir_cluster_copyOf sp_Copy0 := by
  refine Verified.mk ?_
  rintro ds rfl
  simp only [sp_Copy0]
  rw [spC_F]
  have x0 : sp_SChk0.hx = none := rfl
  have f0 := schk_F
  have p0 := schk_pre
  have x (n : Nat) : (sp_Cl0 n).hx = none := rfl
  unfold eSto at *
  simp (implicitDefEqProofs := false) (maxSteps := 10000000) [-List.lookup_eq_none_iff, ir_cluster_copyOf, h0, x0, f0, p0, h1, h2, h3, h4, x, cl0_F, cl0_pre]
set_option maxRecDepth 100000 in
set_option maxHeartbeats 8000000 in
theorem v_View0 (h1 : T.sp n_slices_Clone_reredos_api_Reply_reredos_api_Reply = some (sp_Cl0 6)) (h2 : T.sp n_slices_Clone_string_string = some (sp_Cl0 1)) (h3 : T.sp n_slices_Clone_reredos_api_Message_reredos_api_Message = some (sp_Cl0 12)) (h4 : T.sp n_slices_Clone_byte_byte = some (sp_Cl0 1)) (h5 : T.sp n_cluster_copyOf = some sp_Copy0) (h6 : T.sp n_slices_Clone_reredos_api_Note_reredos_api_Note = some (sp_Cl0 4)) : Verified T ir_cluster_cluster_view sp_View0 := by
  refine Verified.mkx (hs := hs_View) rfl ?_
  rintro ds ob ⟨n, l, L, cs, us, P, t, ws, rfl, rfl, hl, hL, hn, hw, he⟩ R hR
  unfold sp_Copy0 at h5
  have x (n : Nat) : (sp_Cl0 n).hx = none := rfl
  simp only [vOb, storesO] at hR ⊢
  rw [view_F] at hR
  have hm : n * n ≤ 16 := Nat.mul_le_mul hn hn
  simp only [Int.toNat_natCast, wV, wC, vwD, flyE] at hR he
  generalize n * n = m at *
  have hel := fun (i : Nat) (h : i < m) => elem_rep noMs h
  have het := fun (i : Nat) (h : i < n) => elem_rep eTape h
  have hes := elem_rep (n := L) (i := l) eSto hl
  have hen := fun (i : Nat) (h : i < n) => elem_rep [D.fz 4 []] h
  have hsl := fun (i : Nat) (h : i < n) => elem_rep [D.sub 4 (List.replicate L eSto)] h
  simp (implicitDefEqProofs := false) (maxSteps := 10000000) [-List.lookup_eq_none_iff, ir_cluster_cluster_view, hl, hw, he, h1, h2, x, cl0_F, cl0_pre]
  refine k_loop (ι := {i : Nat // i ≤ m}) (fun y => ⟨mkTm 107 0 [(0, .own 1000000000 0), (1, .int .i64 l), (4, .own 4 0), (5, .elr 901 6 0 0), (6, .own 6 0), (31, .fz 1 (List.replicate m noMs)), (32, .int .i64 m), (33, .int .i64 y.1)], [(1000000000, .box [.int .i64 n, .fz 2 cs, .int .i64 P, .row 1000000001, .row 1000000002, .fz 1 us, .int .i64 t, .nl 1]), (1000000001, .rwh 1 ws l [.elr 901 6 0 0]), (1000000002, .rws 1 (List.replicate n [.sub 4 (List.replicate L eSto)])),
    (901, .rwh 6 [[.sub 2 (List.replicate n eTape), .sub 2 (List.replicate n eDesk), .sub 1 (List.replicate n [.fz 4 []]), .fz 1 (List.replicate m noMs), .sub 6 [], .sub 1 []]] 0 [.row 902, .row 903, .row 904, .fz 1 (List.replicate m noMs), .fz 6 [], .fz 1 []]), (902, .row 2 (List.replicate n eTape)), (903, .row 2 (List.replicate n eDesk)), (904, .row 1 (List.replicate n [.fz 4 []])),
    (4, .box [.nl 6, .nl 1, .nl 1, .nl 2, .nl 4, .nl 1]), (6, .box [.fz 6 [], .fz 1 [], .row 100, .nl 2, .nl 4, .nl 1]), (100, .row 1 (List.replicate y.1 noMs))]⟩)
    (fun y => m - y.1) [(100, none)] ⟨0, by omega⟩ (by simp (implicitDefEqProofs := false) (maxSteps := 10000000)) ?_
  rintro ⟨i, hi⟩ Q hQ
  simp only at hQ
  by_cases h : i < m
  · have hil : (i : Int) < m := by omega
    have hel := hel i h
    have hin : inR .i64 ((i : Int) + 1) := by simp only [inR]; omega
    unfold noMs at *
    simp (implicitDefEqProofs := false) (maxSteps := 10000000) [-List.lookup_eq_none_iff, ir_cluster_cluster_view_b0, hil, h, hel, hin, h3, x, cl0_F, cl0_pre]
    refine ⟨⟨by omega, by omega⟩, ?_⟩
    exact hQ _ [(100, some 42)] ⟨i + 1, by omega⟩ (by simp (implicitDefEqProofs := false) (maxSteps := 10000000) [-List.lookup_eq_none_iff, rep_succ]) (by simp only; omega)
  · have him : i = m := by omega
    subst him
    obtain ⟨B, hB⟩ : ∃ B, ir_cluster_cluster_view_b0 = .seq (.reg [zp 34 .lss 33 32]) (.seq (.cond (.t 34) .skip (.exit 0)) B) := ⟨_, rfl⟩
    simp (implicitDefEqProofs := false) (maxSteps := 10000000) [-List.lookup_eq_none_iff, hB, ir_cluster_cluster_view_r3]
    refine k_loop (ι := {j : Nat // j ≤ n}) (fun y => ⟨mkTm 107 0 [(0, .own 1000000000 0), (1, .int .i64 l), (4, .own 4 0), (5, .elr 901 6 0 0), (6, .own 6 0), (49, .int .i64 n), (50, .int .i64 y.1)], [(1000000000, .box [.int .i64 n, .fz 2 cs, .int .i64 P, .row 1000000001, .row 1000000002, .fz 1 us, .int .i64 t, .nl 1]), (1000000001, .rwh 1 ws l [.elr 901 6 0 0]), (1000000002, .rws 1 (List.replicate n [.sub 4 (List.replicate L eSto)])),
      (901, .rwh 6 [[.sub 2 (List.replicate n eTape), .sub 2 (List.replicate n eDesk), .sub 1 (List.replicate n [.fz 4 []]), .fz 1 (List.replicate i noMs), .sub 6 [], .sub 1 []]] 0 [.row 902, .row 903, .row 904, .fz 1 (List.replicate i noMs), .fz 6 [], .fz 1 []]), (902, .row 2 (List.replicate n eTape)), (903, .row 2 (List.replicate n eDesk)), (904, .row 1 (List.replicate n [.fz 4 []])),
      (4, .box [.nl 6, .nl 1, .nl 1, .nl 2, .nl 4, .nl 1]), (6, .box [.fz 6 [], .fz 1 [], .row 100, .row 101, .row 102, .row 103]), (100, .row 1 (List.replicate i noMs)), (101, .row 2 (List.replicate y.1 eTape)), (102, .row 4 (List.replicate y.1 eSto)), (103, .row 1 (List.replicate y.1 [.fz 4 []]))]⟩)
      (fun y => n - y.1) [(101, none), (102, none), (103, none)] ⟨0, by omega⟩ (by simp (implicitDefEqProofs := false) (maxSteps := 10000000)) ?_
    rintro ⟨j, hj⟩ Q2 hQ2
    simp only at hQ2
    by_cases h' : j < n
    · have hjl : (j : Int) < n := by omega
      have het := het j h'
      have hen := hen j h'
      have hsl := hsl j h'
      have hin : inR .i64 ((j : Int) + 1) := by simp only [inR]; omega
      unfold eTape at *
      unfold eSto at *
      simp (implicitDefEqProofs := false) (maxSteps := 10000000) [-List.lookup_eq_none_iff, ir_cluster_cluster_view_b1, hjl, h', hl, het, hen, hsl, hes, hin, h4, h5, h6, x, cl0_F, cl0_pre, spC_hx, spC_F, spC_pre, rep_set]
      refine ⟨⟨by omega, by omega⟩, ⟨by omega, by omega⟩, ⟨by omega, by omega⟩, ?_⟩
      exact hQ2 _ [(101, some 74), (102, some 90), (103, some 103)] ⟨j + 1, by omega⟩ (by simp (implicitDefEqProofs := false) (maxSteps := 10000000) [-List.lookup_eq_none_iff, rep_succ]) (by simp only; omega)
    · have hjn : j = n := by omega
      subst hjn
      obtain ⟨B, hB⟩ : ∃ B, ir_cluster_cluster_view_b1 = .seq (.reg [zp 51 .lss 50 49]) (.seq (.cond (.t 51) .skip (.exit 2)) B) := ⟨_, rfl⟩
      simp (implicitDefEqProofs := false) (maxSteps := 10000000) [-List.lookup_eq_none_iff, hB, ir_cluster_cluster_view_r2]
      exact hR _ [] (by simp (implicitDefEqProofs := false) (maxSteps := 10000000))
end
end Go.Proofs.YtgioabhamihfmaaGreatDoor
