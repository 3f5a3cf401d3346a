/-
  Where nothing is: crashes of sites. Conditions: those of each specification's 'pre', and that the functions that are called are what theirs say.
-/
import Derived.Test.YtgioabhamihfmaaGreatDoorTiN
set_option linter.unusedVariables false
set_option linter.unusedSimpArgs false
namespace Go.Proofs.YtgioabhamihfmaaGreatDoor
open Go Go.Vcg

section
variable {T : Tb}
attribute [local simp] isMl VCopsM mstep mchk lchk kchk IOp.isB k_seq k_block k_skip k_reg k_alt k_cond k_exit k_ret kf_nil kf_seq_n kf_seq_e kf_seq_r kf_blk_n kf_blk_e kf_blk_r kf_lp_n kf_lp_e kf_lp_r kf_cut_n kf_cut_e kf_cut_r mkTm VCops VCalt istep act gd applyE wrapD Opd.ev get_mk set_mk set_mk0 tget16 tset16 tget_0 tset_0 tget_1 tset_1 tget_2 tset_2 tget_3 tset_3 tget_4 tset_4 tget_5 tset_5 tget_6 tset_6 tget_7 tset_7 tget_8 tset_8 tget_9 tset_9 tget_10 tset_10 tget_11 tset_11 tget_12 tset_12 tget_13 tset_13 tget_14 tset_14 tget_15 tset_15 D.un D.gu gus IOp.opds binD fnPost getRes IRes.get oneRes D.out outL D.clos closL D.norow norowL D.lv lvL D.scal scalL D.cells D.cell D.cell' St.lk obPut obDel List.lookup cut pickD splice fillParts fillRows elem_cons newsOf D.pl D.forget forgetL Ob.forget forgetO eqCells sg leD leDL leOb apartK St.le D.keys keysL D.rows rowsL obKeys addKeys reach pos D.ren renL Ob.ren inM outM inObs outObs goneK apartN okNames_eq okNms obNms namesOK_nil namesOK_cons freeOK_nil freeOK_cons D.frz frzL Ob.frz frzO St.frz forgetLs dropObs putObs hcall freeOf keeps baseN shD isShift shMax k_bad VCopsG frz_nil actx actc cnum vwCut St.frzT St.opnT St.clsT D.opn opnL Ob.opn opnO VCou VCcx St.oneS D.objI D.objK St.objP St.objQ St.pathR St.pathI pathL scrL D.scr St.opnS St.clsS D.cellS D.fzs fzsL k_mrk k_mrq IOper.gh St.bxS D.tob tobL Ob.tob tobO zI zC zw zz zg zm zi zb zf zl za zs zn zo zd zy zu ze zk zt zc zp
set_option maxRecDepth 100000 in
set_option maxHeartbeats 8000000 in
theorem v_Crash0 (h1 : T.sp n_tape_Crash = some sp_TCrash0) : Verified T ir_cluster_cluster_crash sp_Crash0 := by
  refine Verified.mkx (hs := hs_Crash) rfl ?_
  rintro ds ob ⟨n, ls, P, t, up, xs, rfl, rfl, hc, hup, ht, kd, st, to, lb, pk, kp, c1, c2, c3, c4, c5, ln, rfl, hA, -⟩ R hR
  obtain ⟨⟨hs0, hs1⟩, _, _, _, hkl, hk⟩ := hA
  obtain ⟨s, rfl⟩ : ∃ s : Nat, st = s := ⟨st.toNat, by omega⟩
  have hsn : s < n := by omega
  have x1 : sp_TCrash0.hx = none := rfl
  have hL := hc.2.2
  simp only [clO, clB, upsO, worldsO, storesO, wC, flyE, aC] at hR ⊢
  generalize List.replicate (n * n) noMs = fl at *
  generalize ls.map lbc = cs at *
  generalize ls.length = L at *
  rw [cra_F] at hR
  simp only [Int.toNat_natCast] at hR
  have hej := elem_ups (up := up) (j := s) (by omega)
  cases hb : up.getD s false with
  | false =>
    rw [hb] at hej
    rw [ups_set (by omega) hb] at hR
    simp (implicitDefEqProofs := false) (maxSteps := 10000000) [-List.lookup_eq_none_iff, ir_cluster_cluster_crash, hsn, hup, hej]
    exact hR _ [] (by simp (implicitDefEqProofs := false) (maxSteps := 10000000))
  | true =>
    rw [hb] at hej
    have hul : ((up.map fun b => [D.bool b]).set s [.bool false]).length = n := by simp [hup]
    simp (implicitDefEqProofs := false) (maxSteps := 10000000) [-List.lookup_eq_none_iff, ir_cluster_cluster_crash, hsn, hup, hej]
    generalize (up.map fun b => [D.bool b]).set s [.bool false] = us at *
    refine k_loop (ι := {i : Nat // i ≤ L}) (fun y => ⟨mkTm 90 0 [(0, .own 1000000000 0), (3, .own 3 0), (21, .int .i64 s), (26, .row 1000000001), (27, .int .i64 L), (28, .int .i64 y.1)], [(1000000000, .box [.int .i64 n, .fz 2 cs, .int .i64 P, .row 1000000001, .row 1000000002, .row 1000000003, .int .i64 t, .nl 1]), (1000000001, .rws 1 (List.replicate L [.sbx [.sub 2 (List.replicate n eTape), .sub 2 (List.replicate n eDesk), .sub 1 (List.replicate n [.fz 4 []]), .fz 1 fl, .sub 6 [], .sub 1 []]])), (1000000002, .rws 1 (List.replicate n [.sub 4 (List.replicate L eSto)])), (1000000003, .row 1 us), (3, .box [.int .i64 kd, .int .i64 s, .int .i64 to, .int .i64 lb, .int .i64 pk, .fz 1 (kp.map fun k => [.int .i64 k]), .int .i64 c1, .int .i64 c2, .int .i64 c3, .int .i64 c4, .int .i64 c5, .str ln])]⟩)
      (fun y => L - y.1) [] ⟨0, by omega⟩ (by simp (implicitDefEqProofs := false) (maxSteps := 10000000)) ?_
    rintro ⟨i, hi⟩ Q hQ
    simp only at hQ
    by_cases h : i < L
    · have hil : (i : Int) < L := by omega
      have hei := elem_rep [D.sbx [.sub 2 (List.replicate n eTape), .sub 2 (List.replicate n eDesk), .sub 1 (List.replicate n [.fz 4 []]), .fz 1 fl, .sub 6 [], .sub 1 []]] h
      have hin : inR .i64 ((i : Int) + 1) := by simp only [inR]; omega
      have het := elem_rep eTape hsn
      have hed := elem_rep eDesk hsn
      have hes := elem_rep eSto h
      have hen := elem_rep [D.fz 4 []] hsn
      have hsl := elem_rep [D.sub 4 (List.replicate L eSto)] hsn
      by_cases hki : i < kp.length
      · have hki' : (i : Int) < kp.length := by omega
        have hek := elem_kp hki
        have hkm : kp.getD i 0 ∈ kp := by simp [List.getD, hki]
        obtain ⟨k0, k1⟩ := hk _ hkm
        generalize kp.getD i 0 = k at hek k0 k1
        have f1 := tcrash_F k
        have p1 := tcrash_pre (k := k) k0 (by simp only [inR]; omega)
        unfold eTape at *
        unfold eDesk at *
        unfold eSto at *
        unfold ir_cluster_cluster_crash_b0
        obtain ⟨A, hA⟩ : ∃ A : IC, A = (.alt [[zm 63 5, zn 64 63, zf 65 1 64, zl 66 65, zf 67 1 3, zl 68 67, zm 69 5, zn 70 69, zf 71 2 70, zl 72 71, zf 73 1 3, zl 74 73, zm 75 0, zn 76 75, zf 77 4 76, zl 78 77, zf 79 1 3, zl 80 79, zy 81 1 78 80, zl 82 81, zm 83 4, zw 84 (.build [zI 0, .nl 6] [(0, (1, (zC 1)))]), zw 85 (.build [.nl 3, .nl 6, .nl 3, .nl 2] []), zy 86 2 66 68, zs 2 86 84, zy 87 1 72 74, zz (.store 1 (.t 87) (.c (.nl 4))), zy 88 4 82 83, zs 4 88 85], [zm 63 5, zn 64 63, zf 65 1 64, zl 66 65, zf 67 1 3, zl 68 67, zm 69 5, zn 70 69, zf 71 2 70, zl 72 71, zf 73 1 3, zm 75 0, zn 76 75, zf 77 4 76, zl 78 77, zf 79 1 3, zl 80 79, zy 81 1 78 80, zl 82 81, zm 83 4, zw 84 (.build [zI 0, .nl 6] [(0, (1, (zC 1)))]), zw 85 (.build [.nl 3, .nl 6, .nl 3, .nl 2] []), zy 86 2 66 68, zs 2 86 84, zl 74 73, zy 87 1 72 74, zz (.store 1 (.t 87) (.c (.nl 4))), zy 88 4 82 83, zs 4 88 85]]) := ⟨_, rfl⟩
        rw [← hA]
        obtain ⟨B3, hB3⟩ : ∃ B : IC, B = (.mrq (.mrk [zz (.gou 1004 [(0, 21), (0, 907)])] A) [zz (.gcx 1004 [0, 21, 0]), zz (.gcx 32 [0, 1, 2]), zz (.gcx 31 [0])]) := ⟨_, rfl⟩
        rw [← hB3]
        obtain ⟨B2, hB2⟩ : ∃ B : IC, B = (IC.seq (.alt [[zm 44 5, zn 45 44, zf 46 0 45, zl 47 46, zf 48 1 3, zl 49 48, zm 50 5, zn 51 50, zf 52 0 51, zl 53 52, zf 54 1 3, zl 55 54, zy 56 2 53 55, za 57 2 56, zm 58 6, zw 59 (.call n_tape_Crash [.t 57, .t 58]), zm 43 59, ze 60 43 0, ze 61 43 1, zy 62 2 47 49, zs 2 62 60]]) B3) := ⟨_, rfl⟩
        rw [← hB2]
        obtain ⟨B1, hB1⟩ : ∃ B : IC, B = (IC.seq (IC.seq (.reg [zm 33 4, zf 34 5 3, zl 35 34, zk 36 35, zp 37 .lss 33 36]) (.cond (.t 37) (.reg [zf 38 5 3, zl 39 38, zm 40 4, zy 41 1 39 40, zl 42 41, zm 6 42]) .skip)) B2) := ⟨_, rfl⟩
        rw [← hB1]
        simp (implicitDefEqProofs := false) (maxSteps := 10000000) [-List.lookup_eq_none_iff, hil, h, hei, hin, hki, hki', hek, h1, x1, f1, p1, hsn, het, hed, hes, hen, hsl, rep_set]
        rw [hB1]
        simp (implicitDefEqProofs := false) (maxSteps := 10000000) [-List.lookup_eq_none_iff, hil, h, hei, hin, hki, hki', hek, h1, x1, f1, p1, hsn, het, hed, hes, hen, hsl, rep_set]
        rw [hB2]
        simp (implicitDefEqProofs := false) (maxSteps := 10000000) [-List.lookup_eq_none_iff, hil, h, hei, hin, hki, hki', hek, h1, x1, f1, p1, hsn, het, hed, hes, hen, hsl, rep_set]
        rw [hB3]
        simp (implicitDefEqProofs := false) (maxSteps := 10000000) [-List.lookup_eq_none_iff, hil, h, hei, hin, hki, hki', hek, h1, x1, f1, p1, hsn, het, hed, hes, hen, hsl, rep_set]
        rw [hA]
        simp (implicitDefEqProofs := false) (maxSteps := 10000000) [-List.lookup_eq_none_iff, hil, h, hei, hin, hki, hki', hek, h1, x1, f1, p1, hsn, het, hed, hes, hen, hsl, rep_set]
        exact hQ _ [] ⟨i + 1, by omega⟩ (by simp (implicitDefEqProofs := false) (maxSteps := 10000000)) (by simp only; omega)
      · have hki' : ¬ (i : Int) < kp.length := by omega
        have f1 := tcrash_F 0
        have p1 := tcrash_pre (k := 0) (by omega) (by simp only [inR]; omega)
        unfold eTape at *
        unfold eDesk at *
        unfold eSto at *
        unfold ir_cluster_cluster_crash_b0
        obtain ⟨A, hA⟩ : ∃ A : IC, A = (.alt [[zm 63 5, zn 64 63, zf 65 1 64, zl 66 65, zf 67 1 3, zl 68 67, zm 69 5, zn 70 69, zf 71 2 70, zl 72 71, zf 73 1 3, zl 74 73, zm 75 0, zn 76 75, zf 77 4 76, zl 78 77, zf 79 1 3, zl 80 79, zy 81 1 78 80, zl 82 81, zm 83 4, zw 84 (.build [zI 0, .nl 6] [(0, (1, (zC 1)))]), zw 85 (.build [.nl 3, .nl 6, .nl 3, .nl 2] []), zy 86 2 66 68, zs 2 86 84, zy 87 1 72 74, zz (.store 1 (.t 87) (.c (.nl 4))), zy 88 4 82 83, zs 4 88 85], [zm 63 5, zn 64 63, zf 65 1 64, zl 66 65, zf 67 1 3, zl 68 67, zm 69 5, zn 70 69, zf 71 2 70, zl 72 71, zf 73 1 3, zm 75 0, zn 76 75, zf 77 4 76, zl 78 77, zf 79 1 3, zl 80 79, zy 81 1 78 80, zl 82 81, zm 83 4, zw 84 (.build [zI 0, .nl 6] [(0, (1, (zC 1)))]), zw 85 (.build [.nl 3, .nl 6, .nl 3, .nl 2] []), zy 86 2 66 68, zs 2 86 84, zl 74 73, zy 87 1 72 74, zz (.store 1 (.t 87) (.c (.nl 4))), zy 88 4 82 83, zs 4 88 85]]) := ⟨_, rfl⟩
        rw [← hA]
        obtain ⟨B3, hB3⟩ : ∃ B : IC, B = (.mrq (.mrk [zz (.gou 1004 [(0, 21), (0, 907)])] A) [zz (.gcx 1004 [0, 21, 0]), zz (.gcx 32 [0, 1, 2]), zz (.gcx 31 [0])]) := ⟨_, rfl⟩
        rw [← hB3]
        obtain ⟨B2, hB2⟩ : ∃ B : IC, B = (IC.seq (.alt [[zm 44 5, zn 45 44, zf 46 0 45, zl 47 46, zf 48 1 3, zl 49 48, zm 50 5, zn 51 50, zf 52 0 51, zl 53 52, zf 54 1 3, zl 55 54, zy 56 2 53 55, za 57 2 56, zm 58 6, zw 59 (.call n_tape_Crash [.t 57, .t 58]), zm 43 59, ze 60 43 0, ze 61 43 1, zy 62 2 47 49, zs 2 62 60]]) B3) := ⟨_, rfl⟩
        rw [← hB2]
        obtain ⟨B1, hB1⟩ : ∃ B : IC, B = (IC.seq (IC.seq (.reg [zm 33 4, zf 34 5 3, zl 35 34, zk 36 35, zp 37 .lss 33 36]) (.cond (.t 37) (.reg [zf 38 5 3, zl 39 38, zm 40 4, zy 41 1 39 40, zl 42 41, zm 6 42]) .skip)) B2) := ⟨_, rfl⟩
        rw [← hB1]
        simp (implicitDefEqProofs := false) (maxSteps := 10000000) [-List.lookup_eq_none_iff, hil, h, hei, hin, hki, hki', h1, x1, f1, p1, hsn, het, hed, hes, hen, hsl, rep_set]
        rw [hB1]
        simp (implicitDefEqProofs := false) (maxSteps := 10000000) [-List.lookup_eq_none_iff, hil, h, hei, hin, hki, hki', h1, x1, f1, p1, hsn, het, hed, hes, hen, hsl, rep_set]
        rw [hB2]
        simp (implicitDefEqProofs := false) (maxSteps := 10000000) [-List.lookup_eq_none_iff, hil, h, hei, hin, hki, hki', h1, x1, f1, p1, hsn, het, hed, hes, hen, hsl, rep_set]
        rw [hB3]
        simp (implicitDefEqProofs := false) (maxSteps := 10000000) [-List.lookup_eq_none_iff, hil, h, hei, hin, hki, hki', h1, x1, f1, p1, hsn, het, hed, hes, hen, hsl, rep_set]
        rw [hA]
        simp (implicitDefEqProofs := false) (maxSteps := 10000000) [-List.lookup_eq_none_iff, hil, h, hei, hin, hki, hki', h1, x1, f1, p1, hsn, het, hed, hes, hen, hsl, rep_set]
        exact hQ _ [] ⟨i + 1, by omega⟩ (by simp (implicitDefEqProofs := false) (maxSteps := 10000000)) (by simp only; omega)
    · have hin : i = L := by omega
      subst hin
      obtain ⟨B, hB⟩ : ∃ B, ir_cluster_cluster_crash_b0 = .seq (.reg [zp 29 .lss 28 27]) (.seq (.cond (.t 29) .skip (.exit 0)) B) := ⟨_, rfl⟩
      simp (implicitDefEqProofs := false) (maxSteps := 10000000) [-List.lookup_eq_none_iff, hB]
      exact hR _ [] (by simp (implicitDefEqProofs := false) (maxSteps := 10000000))
end
end Go.Proofs.YtgioabhamihfmaaGreatDoor
