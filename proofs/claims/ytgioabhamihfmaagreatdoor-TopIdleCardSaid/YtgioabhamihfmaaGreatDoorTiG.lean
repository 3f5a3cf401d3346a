/-
  Where nothing is: a cluster's ticks. Conditions: those of each specification's 'pre', and that the functions that are called are what theirs say.
-/
import Derived.Test.YtgioabhamihfmaaGreatDoorTiN
set_option linter.unusedVariables false
set_option linter.unusedSimpArgs false
namespace Go.Proofs.YtgioabhamihfmaaGreatDoor
open Go Go.Vcg

section
variable {T : Tb}
attribute [local simp] isMl VCopsM mstep mchk lchk kchk IOp.isB k_seq k_block k_skip k_reg k_alt k_cond k_exit k_ret kf_nil kf_seq_n kf_seq_e kf_seq_r kf_blk_n kf_blk_e kf_blk_r kf_lp_n kf_lp_e kf_lp_r kf_cut_n kf_cut_e kf_cut_r mkTm VCops VCalt istep act gd applyE wrapD Opd.ev get_mk set_mk set_mk0 tget16 tset16 tget_0 tset_0 tget_1 tset_1 tget_2 tset_2 tget_3 tset_3 tget_4 tset_4 tget_5 tset_5 tget_6 tset_6 tget_7 tset_7 tget_8 tset_8 tget_9 tset_9 tget_10 tset_10 tget_11 tset_11 tget_12 tset_12 tget_13 tset_13 tget_14 tset_14 tget_15 tset_15 D.un D.gu gus IOp.opds binD fnPost getRes IRes.get oneRes D.out outL D.clos closL D.norow norowL D.lv lvL D.scal scalL D.cells D.cell D.cell' St.lk obPut obDel List.lookup cut pickD splice fillParts fillRows elem_cons newsOf D.pl D.forget forgetL Ob.forget forgetO eqCells sg leD leDL leOb apartK St.le D.keys keysL D.rows rowsL obKeys addKeys reach pos D.ren renL Ob.ren inM outM inObs outObs goneK apartN okNames_eq okNms obNms namesOK_nil namesOK_cons freeOK_nil freeOK_cons D.frz frzL Ob.frz frzO St.frz forgetLs dropObs putObs hcall freeOf keeps baseN shD isShift shMax k_bad VCopsG frz_nil actx actc cnum vwCut St.frzT St.opnT St.clsT D.opn opnL Ob.opn opnO VCou VCcx St.oneS D.objI D.objK St.objP St.objQ St.pathR St.pathI pathL scrL D.scr St.opnS St.clsS D.cellS D.fzs fzsL k_mrk k_mrq IOper.gh St.bxS D.tob tobL Ob.tob tobO zI zC zw zz zg zm zi zb zf zl za zs zn zo zd zy zu ze zk zt zc zp
set_option maxRecDepth 100000 in
set_option maxHeartbeats 8000000 in
theorem v_Tick0 (h1 : T.sp n_part_Tick = some sp_PTick0) (h2 : T.sp n_cluster_cluster_answer = some sp_CAns) (h3 : T.sp n_coord_Tick = some sp_CTick0) (h4 : T.sp n_cluster_cluster_turn = some sp_CTurn) : Verified T ir_cluster_cluster_tick sp_Tick0 := by
  refine Verified.mkx (hs := hs_Tick) rfl ?_
  rintro ds ob ⟨n, ls, P, t, up, xs, rfl, rfl, hc, hup, ht, rfl⟩ R hR
  unfold sp_PTick0 at h1
  unfold sp_CAns at h2
  unfold sp_CTick0 at h3
  have p1 := fun (l s : Nat) (hl : l < ls.length) (hs : s < n) => pTick_eq (l := l) (me := s) hc ⟨by omega, by omega⟩ ⟨by omega, by omega⟩
  have p2 := fun (l s : Nat) (hl : l < ls.length) (hs : s < n) => pOpen_eq [.agg eAns, .bool false] (t + 1) up hc hl hs
  have p3 := fun (l s : Nat) (hl : l < ls.length) (hs : s < n) => pCfg4_eq (l := l) (me := s) (.agg eDesk) hc ⟨by omega, by omega⟩ ⟨by omega, by omega⟩
  have p4 := fun (l s : Nat) (hl : l < ls.length) (hs : s < n) => pOpen_eq [.agg eTurn] (t + 1) up hc hl hs
  have hL := hc.2.2
  have hn := hc.2.1
  simp only [cfgD, openOb, obO, clB, upsO, wC, flyE] at p1 p2 p3 p4
  simp only [clO, clB, upsO, worldsO, storesO, wC, flyE] at hR ⊢
  generalize List.replicate (n * n) noMs = fl at *
  generalize ls.map lbc = cs at *
  generalize ls.length = L at *
  rw [tk_F] at hR
  have ht1 : inR .i64 (t + 1) := by simp only [inR]; omega
  simp (implicitDefEqProofs := false) (maxSteps := 10000000) [-List.lookup_eq_none_iff, ir_cluster_cluster_tick, ht1]
  refine k_loop (ι := {i : Nat // i ≤ L}) (fun y => ⟨mkTm 92 0 [(0, .own 1000000000 0), (19, .row 1000000001), (20, .int .i64 L), (21, .int .i64 y.1)], [(1000000000, .box [.int .i64 n, .fz 2 cs, .int .i64 P, .row 1000000001, .row 1000000002, .row 1000000003, .int .i64 (t + 1), .nl 1]), (1000000001, .rws 1 (List.replicate L [.sbx [.sub 2 (List.replicate n eTape), .sub 2 (List.replicate n eDesk), .sub 1 (List.replicate n [.fz 4 []]), .fz 1 fl, .sub 6 [], .sub 1 []]])), (1000000002, .rws 1 (List.replicate n [.sub 4 (List.replicate L eSto)])), (1000000003, .row 1 (up.map fun b => [.bool b]))]⟩)
    (fun y => L - y.1) [] ⟨0, by omega⟩ (by simp (implicitDefEqProofs := false) (maxSteps := 10000000)) ?_
  rintro ⟨i, hi⟩ Q hQ
  simp only at hQ
  by_cases h : i < L
  · have hil : (i : Int) < L := by omega
    have hei := elem_rep [D.sbx [.sub 2 (List.replicate n eTape), .sub 2 (List.replicate n eDesk), .sub 1 (List.replicate n [.fz 4 []]), .fz 1 fl, .sub 6 [], .sub 1 []]] h
    simp (implicitDefEqProofs := false) (maxSteps := 10000000) [-List.lookup_eq_none_iff, ir_cluster_cluster_tick_b2, hil, h, hei]
    refine k_loop (ι := {j : Nat // j ≤ n}) (fun y => ⟨mkTm 92 0 [(0, .own 1000000000 0), (2, .int .i64 i), (3, .elr 901 6 0 0), (19, .row 1000000001), (20, .int .i64 L), (21, .int .i64 i), (24, .elr 1000000001 1 i 0), (25, .elr 901 6 0 0), (30, .int .i64 n), (31, .int .i64 y.1)], [(1000000000, .box [.int .i64 n, .fz 2 cs, .int .i64 P, .row 1000000001, .row 1000000002, .row 1000000003, .int .i64 (t + 1), .nl 1]), (1000000001, .rwh 1 (List.replicate L [.sbx [.sub 2 (List.replicate n eTape), .sub 2 (List.replicate n eDesk), .sub 1 (List.replicate n [.fz 4 []]), .fz 1 fl, .sub 6 [], .sub 1 []]]) i [.elr 901 6 0 0]), (1000000002, .rws 1 (List.replicate n [.sub 4 (List.replicate L eSto)])), (1000000003, .row 1 (up.map fun b => [.bool b])),
      (901, .rwh 6 [[.sub 2 (List.replicate n eTape), .sub 2 (List.replicate n eDesk), .sub 1 (List.replicate n [.fz 4 []]), .fz 1 fl, .sub 6 [], .sub 1 []]] 0 [.row 902, .row 903, .row 904, .fz 1 fl, .row 905, .row 906]), (902, .row 2 (List.replicate n eTape)), (903, .row 2 (List.replicate n eDesk)), (904, .row 1 (List.replicate n [.fz 4 []])), (905, .row 6 []), (906, .row 1 [])]⟩)
      (fun y => n - y.1) [] ⟨0, by omega⟩ (by simp (implicitDefEqProofs := false) (maxSteps := 10000000)) ?_
    rintro ⟨j, hj⟩ Q2 hQ2
    simp only at hQ2
    by_cases h' : j < n
    · have hjl : (j : Int) < n := by omega
      have hej := elem_ups (up := up) (j := j) (by omega)
      have p1 := p1 i j h h'
      have p2 := p2 i j h h'
      have p3 := p3 i j h h'
      have p4 := p4 i j h h'
      have hd := elem_rep eDesk h'
      have hs := elem_rep [D.sub 4 (List.replicate L eSto)] h'
      have hin : inR .i64 ((j : Int) + 1) := by simp only [inR]; omega
      cases hb : up.getD j false with
      | false =>
        rw [hb] at hej
        simp (implicitDefEqProofs := false) (maxSteps := 10000000) [-List.lookup_eq_none_iff, ir_cluster_cluster_tick_b0, hjl, hup, h', hej, hin]
        exact hQ2 _ [] ⟨j + 1, by omega⟩ (by simp (implicitDefEqProofs := false) (maxSteps := 10000000)) (by simp only; omega)
      | true =>
        rw [hb] at hej
        have tp := turn_pre
        unfold eDesk at *
        unfold eAns at *
        unfold eTurn at *
        simp (implicitDefEqProofs := false) (maxSteps := 10000000) [-List.lookup_eq_none_iff, ir_cluster_cluster_tick_b0, hjl, hup, h', hej, hin, hs, hd, h1, h2, h3, h4, spI_hx, hsI_F, hsI_pre, spC_hx, spC_F, spC_pre, turn_hx, turn_F, tp, p1, p2, p3, p4, rep_set]
        exact hQ2 _ [(905, some 900000)] ⟨j + 1, by omega⟩ (by simp (implicitDefEqProofs := false) (maxSteps := 10000000)) (by simp only; omega)
    · have hjn : j = n := by omega
      subst hjn
      have hin : inR .i64 ((i : Int) + 1) := by simp only [inR]; omega
      obtain ⟨B, hB⟩ : ∃ B, ir_cluster_cluster_tick_b0 = .seq (.reg [zp 32 .lss 31 30]) (.seq (.cond (.t 32) .skip (.exit 2)) B) := ⟨_, rfl⟩
      simp (implicitDefEqProofs := false) (maxSteps := 10000000) [-List.lookup_eq_none_iff, hB, ir_cluster_cluster_tick_r1, hin, rep_set]
      exact hQ _ [] ⟨i + 1, by omega⟩ (by simp (implicitDefEqProofs := false) (maxSteps := 10000000)) (by simp only; omega)
  · have hin : i = L := by omega
    subst hin
    obtain ⟨B, hB⟩ : ∃ B, ir_cluster_cluster_tick_b2 = .seq (.reg [zp 22 .lss 21 20]) (.seq (.cond (.t 22) .skip (.exit 0)) B) := ⟨_, rfl⟩
    simp (implicitDefEqProofs := false) (maxSteps := 10000000) [-List.lookup_eq_none_iff, hB]
    exact hR _ [] (by simp (implicitDefEqProofs := false) (maxSteps := 10000000))
end
end Go.Proofs.YtgioabhamihfmaaGreatDoor
