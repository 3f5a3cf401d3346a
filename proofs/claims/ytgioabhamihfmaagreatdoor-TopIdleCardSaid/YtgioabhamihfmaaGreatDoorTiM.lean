/-
  Where nothing is: starts of sites. Conditions: those of each specification's 'pre', and that the functions that are called are what theirs say.
-/
import Derived.Test.YtgioabhamihfmaaGreatDoorTiN
set_option linter.unusedVariables false
set_option linter.unusedSimpArgs false
namespace Go.Proofs.YtgioabhamihfmaaGreatDoor
open Go Go.Vcg

section
variable {T : Tb}
attribute [local simp] isMl VCopsM mstep mchk lchk kchk IOp.isB k_seq k_block k_skip k_reg k_alt k_cond k_exit k_ret kf_nil kf_seq_n kf_seq_e kf_seq_r kf_blk_n kf_blk_e kf_blk_r kf_lp_n kf_lp_e kf_lp_r kf_cut_n kf_cut_e kf_cut_r mkTm VCops VCalt istep act gd applyE wrapD Opd.ev get_mk set_mk set_mk0 tget16 tset16 tget_0 tset_0 tget_1 tset_1 tget_2 tset_2 tget_3 tset_3 tget_4 tset_4 tget_5 tset_5 tget_6 tset_6 tget_7 tset_7 tget_8 tset_8 tget_9 tset_9 tget_10 tset_10 tget_11 tset_11 tget_12 tset_12 tget_13 tset_13 tget_14 tset_14 tget_15 tset_15 D.un D.gu gus IOp.opds binD fnPost getRes IRes.get oneRes D.out outL D.clos closL D.norow norowL D.lv lvL D.scal scalL D.cells D.cell D.cell' St.lk obPut obDel List.lookup cut pickD splice fillParts fillRows elem_cons newsOf D.pl D.forget forgetL Ob.forget forgetO eqCells sg leD leDL leOb apartK St.le D.keys keysL D.rows rowsL obKeys addKeys reach pos D.ren renL Ob.ren inM outM inObs outObs goneK apartN okNames_eq okNms obNms namesOK_nil namesOK_cons freeOK_nil freeOK_cons D.frz frzL Ob.frz frzO St.frz forgetLs dropObs putObs hcall freeOf keeps baseN shD isShift shMax k_bad VCopsG frz_nil actx actc cnum vwCut St.frzT St.opnT St.clsT D.opn opnL Ob.opn opnO VCou VCcx St.oneS D.objI D.objK St.objP St.objQ St.pathR St.pathI pathL scrL D.scr St.opnS St.clsS D.cellS D.fzs fzsL k_mrk k_mrq IOper.gh St.bxS D.tob tobL Ob.tob tobO zI zC zw zz zg zm zi zb zf zl za zs zn zo zd zy zu ze zk zt zc zp
set_option maxRecDepth 100000 in
set_option maxHeartbeats 8000000 in
theorem v_Start0 (h1 : T.sp n_tape_Recover = some sp_Rcv0) (h2 : T.sp n_recover_Rebuild = some sp_Reb0) : Verified T ir_cluster_cluster_start sp_Start0 := by
  refine Verified.mkx (hs := hs_Start) rfl ?_
  rintro ds ob ⟨n, ls, P, t, up, xs, rfl, rfl, hc, hup, ht, st, rfl, hs0, hs1⟩ R hR
  obtain ⟨s, rfl⟩ : ∃ s : Nat, st = s := ⟨st.toNat, by omega⟩
  have hsn : s < n := by omega
  unfold sp_Rcv0 at h1
  unfold sp_Reb0 at h2
  have p1 := pCfg2_eq (.agg eTape) hc
  have p2 := pReb_eq hc ⟨hs0, hs1⟩
  have hL := hc.2.2
  simp only [cfgD] at p1 p2
  simp only [clO, clB, upsO, worldsO, storesO, wC, flyE] at hR ⊢
  generalize List.replicate (n * n) noMs = fl at *
  generalize ls.map lbc = cs at *
  generalize ls.length = L at *
  rw [sta_F] at hR
  simp only [Int.toNat_natCast] at hR
  have hej := elem_ups (up := up) (j := s) (by omega)
  cases hb : up.getD s false with
  | true =>
    rw [hb] at hej
    rw [ups_set (by omega) hb] at hR
    simp (implicitDefEqProofs := false) (maxSteps := 10000000) [-List.lookup_eq_none_iff, ir_cluster_cluster_start, hsn, hup, hej]
    exact hR _ [] (by simp (implicitDefEqProofs := false) (maxSteps := 10000000))
  | false =>
    rw [hb] at hej
    simp (implicitDefEqProofs := false) (maxSteps := 10000000) [-List.lookup_eq_none_iff, ir_cluster_cluster_start, hsn, hup, hej]
    generalize (up.map fun b => [D.bool b]).set s [.bool true] = us at *
    refine k_loop (ι := {i : Nat // i ≤ L}) (fun y => ⟨mkTm 89 0 [(0, .own 1000000000 0), (1, .int .i64 s), (25, .row 1000000001), (26, .int .i64 L), (27, .int .i64 y.1)], [(1000000000, .box [.int .i64 n, .fz 2 cs, .int .i64 P, .row 1000000001, .row 1000000002, .row 1000000003, .int .i64 t, .nl 1]), (1000000001, .rws 1 (List.replicate L [.sbx [.sub 2 (List.replicate n eTape), .sub 2 (List.replicate n eDesk), .sub 1 (List.replicate n [.fz 4 []]), .fz 1 fl, .sub 6 [], .sub 1 []]])), (1000000002, .rws 1 (List.replicate n [.sub 4 (List.replicate L eSto)])), (1000000003, .row 1 us)]⟩)
      (fun y => L - y.1) [] ⟨0, by omega⟩ (by simp (implicitDefEqProofs := false) (maxSteps := 10000000)) ?_
    rintro ⟨i, hi⟩ Q hQ
    simp only at hQ
    by_cases h : i < L
    · have hil : (i : Int) < L := by omega
      have hei := elem_rep [D.sbx [.sub 2 (List.replicate n eTape), .sub 2 (List.replicate n eDesk), .sub 1 (List.replicate n [.fz 4 []]), .fz 1 fl, .sub 6 [], .sub 1 []]] h
      have hin : inR .i64 ((i : Int) + 1) := by simp only [inR]; omega
      have het := elem_rep eTape hsn
      have hed := elem_rep eDesk hsn
      have hes := elem_rep eSto h
      have hen := elem_rep [D.fz 4 []] hsn
      have hsl := elem_rep [D.sub 4 (List.replicate L eSto)] hsn
      unfold eTape at *
      unfold eDesk at *
      unfold eSto at *
      unfold ir_cluster_cluster_start_b0
      obtain ⟨A, hA⟩ : ∃ A : IC, A = (.alt [[zm 56 0, zn 57 56, zf 58 4 57, zl 59 58, zm 60 1, zy 61 1 59 60, zl 62 61, zm 63 4, zm 64 5, zn 65 64, zf 66 1 65, zl 67 66, zm 68 1, zm 69 5, zn 70 69, zf 71 2 70, zl 72 71, zm 73 1, zm 74 0, zn 75 74, zf 76 0 75, za 77 3 76, zm 78 1, zm 79 6, zw 80 (.call n_recover_Rebuild [.t 77, .t 78, .t 79]), zm 55 80, ze 81 55 0, ze 82 55 1, ze 83 55 2, ze 84 55 3, zy 85 4 62 63, zs 4 85 81, zy 86 2 67 68, zs 2 86 82, zy 87 1 72 73, zs 1 87 83]]) := ⟨_, rfl⟩
      rw [← hA]
      obtain ⟨B2, hB2⟩ : ∃ B : IC, B = (.mrq (.mrk [zz (.gou 1004 [(0, 1), (0, 907)])] A) [zz (.gcx 1004 [0, 1, 0]), zz (.gcx 31 [0, 1, 2]), zz (.gcx 30 [0])]) := ⟨_, rfl⟩
      rw [← hB2]
      obtain ⟨B1, hB1⟩ : ∃ B : IC, B = (IC.seq (.alt [[zm 48 5, zn 49 48, zf 50 0 49, zl 51 50, zm 52 1, za 53 2 7, zy 54 2 51 52, zs 2 54 53]]) B2) := ⟨_, rfl⟩
      rw [← hB1]
      simp (implicitDefEqProofs := false) (maxSteps := 10000000) [-List.lookup_eq_none_iff, hil, h, hei, hin, h1, h2, spC_hx, spC_F, spC_pre, p1, p2, hsn, het, hed, hes, hen, hsl, rep_set, eDesk]
      rw [hB1]
      simp (implicitDefEqProofs := false) (maxSteps := 10000000) [-List.lookup_eq_none_iff, hil, h, hei, hin, h1, h2, spC_hx, spC_F, spC_pre, p1, p2, hsn, het, hed, hes, hen, hsl, rep_set, eDesk]
      rw [hB2]
      simp (implicitDefEqProofs := false) (maxSteps := 10000000) [-List.lookup_eq_none_iff, hil, h, hei, hin, h1, h2, spC_hx, spC_F, spC_pre, p1, p2, hsn, het, hed, hes, hen, hsl, rep_set, eDesk]
      rw [hA]
      simp (implicitDefEqProofs := false) (maxSteps := 10000000) [-List.lookup_eq_none_iff, hil, h, hei, hin, h1, h2, spC_hx, spC_F, spC_pre, p1, p2, hsn, het, hed, hes, hen, hsl, rep_set, eDesk]
      exact hQ _ [] ⟨i + 1, by omega⟩ (by simp (implicitDefEqProofs := false) (maxSteps := 10000000)) (by simp only; omega)
    · have hin : i = L := by omega
      subst hin
      obtain ⟨B, hB⟩ : ∃ B, ir_cluster_cluster_start_b0 = .seq (.reg [zp 28 .lss 27 26]) (.seq (.cond (.t 28) .skip (.exit 0)) B) := ⟨_, rfl⟩
      simp (implicitDefEqProofs := false) (maxSteps := 10000000) [-List.lookup_eq_none_iff, hB]
      exact hR _ [] (by simp (implicitDefEqProofs := false) (maxSteps := 10000000))
end
end Go.Proofs.YtgioabhamihfmaaGreatDoor
