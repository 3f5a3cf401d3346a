/-
  Where nothing is: a message is taken, an act is carried out. Conditions: those of each specification's 'pre', and that the functions that are called are what theirs say.
-/
import Derived.Test.YtgioabhamihfmaaGreatDoorTiN
set_option linter.unusedVariables false
set_option linter.unusedSimpArgs false
namespace Go.Proofs.YtgioabhamihfmaaGreatDoor
open Go Go.Vcg

/-- The code of a taker, where its world alone is opened. -/
def ir_take2 : IFn := (.mk 138 (.mrk [zz (.gou 1003 [(4, 1), (0, 901)])] (.seq (.reg [zu 3 1]) (.seq (.alt [[zm 12 0, zn 13 12, zf 14 3 13, zl 15 14, zf 16 3 3, zl 17 16, zy 18 1 15 17, zl 19 18, zm 4 19]]) (.seq (.alt [[zm 21 0, zn 22 21, zf 23 0 22, za 24 3 23, zm 25 4, zn 26 25, zf 27 3 26, zl 28 27, zf 29 1 3, zl 30 29, zf 31 2 3, zl 32 31, zf 33 4 3, zl 34 33, zf 35 0 3, zl 36 35, zw 37 (.call n_net_Take [.t 24, .t 28, .t 30, .t 32, .t 34, .t 36]), zm 20 37, ze 38 20 0, ze 39 20 1, ze 40 20 2, zw 6 (.alloc [zI 0, zI 0, zI 0, zI 0, zI 0, zI 0, zI 0, zI 0, zI 0, zI 0, .bool false, zI 0]), zm 5 38, zs 12 6 39, zm 7 40]]) (.seq (.seq (.reg [zm 41 7, zc 42 .neq 41 0]) (.cond (.t 42) (.mrk [zz (.gcx 1003 [4, 1, 0])] .ret) .skip)) (.seq (.reg [zm 43 4, zm 44 5, zn 45 43, zf 46 3 45, zs 1 46 44]) (.seq (.seq (.alt [[zf 47 0 3, zl 48 47, zc 49 .neq 48 2, zm 50 49, zg 50 false (zm 51 0), zg 50 false (zn 52 51), zg 50 false (zf 53 5 52), zg 50 false (zl 54 53), zg 50 false (zf 55 2 3), zg 50 false (zl 56 55), zg 50 false (zy 57 1 54 56), zg 50 false (zl 58 57), zg 50 false (zt 59 58), zo 60 50 59]]) (.cond (.t 60) .ret .skip)) (.seq (.seq (.reg [zf 61 0 6, zl 62 61, zc 63 .lss 62 5]) (.cond (.t 63) (.seq (.seq (.alt [[zm 65 0, zn 66 65, zf 67 0 66, za 68 3 67, zf 69 3 3, zl 70 69, zf 71 2 3, zl 72 71, zm 73 0, zn 74 73, zf 75 4 74, zl 76 75, zf 77 2 3, zl 78 77, zy 79 1 76 78, zl 80 79, zm 81 4, zn 82 81, zf 83 2 82, zl 84 83, zf 85 2 3, zl 86 85, zy 87 1 84 86, zl 88 87, zm 89 0, zf 90 3 3, zl 91 90, zf 92 2 3, zl 93 92, zw 94 (.call n_cluster_cluster_room [.t 89, .t 91, .t 93]), za 95 12 6, zw 96 (.call n_part_Hear [.t 68, .t 70, .t 72, .t 80, .t 88, .t 94, .t 95]), zm 64 96, ze 97 64 0, ze 98 64 1, zw 8 (.alloc [.nl 3, .nl 6, .nl 3, .nl 2, .nl 12, .nl 8, .nl 4]), zs 7 8 97, zm 9 98]]) (.seq (.reg [zm 99 9, zc 100 .eql 99 0]) (.cond (.t 100) (.reg [zm 101 0, zf 102 3 3, zl 103 102, zf 104 2 3, zl 105 104, za 106 7 8, zw 107 (.callx n_cluster_cluster_answer [.t 101, .t 103, .t 105, .t 106, .c (.bool true)])]) .skip))) .ret) .skip)) (.seq (.alt [[zm 109 0, zn 110 109, zf 111 0 110, za 112 3 111, zf 113 3 3, zl 114 113, zf 115 2 3, zl 116 115, zm 117 4, zn 118 117, zf 119 1 118, zl 120 119, zf 121 2 3, zl 122 121, zy 123 2 120 122, za 124 2 123, za 125 12 6, zw 126 (.call n_coord_Hear [.t 112, .t 114, .t 116, .t 124, .t 125]), zm 108 126, ze 127 108 0, ze 128 108 1, zw 10 (.alloc [zI 0, .nl 6, .nl 12, .nl 8, .nl 6, zI 0, zI 0]), zs 7 10 127, zm 11 128]]) (.seq (.reg [zm 129 11, zc 130 .eql 129 0]) (.cond (.t 130) (.reg [zm 131 0, zf 132 3 3, zl 133 132, zf 134 2 3, zl 135 134, za 136 7 10, zw 137 (.callx n_cluster_cluster_turn [.t 131, .t 133, .t 135, .t 136])]) .skip))))))))))) [])
theorem w_take2 : Wf Tryz.prog kf n_cluster_cluster_take 48 Tryz.f48 ir_take2 := .mk' (kG (f := 48) (by decide)) Tryz.func48 (by kernel_rfl) (by kernel_rfl) (by kernel_rfl)

section
variable {T : Tb}
attribute [local simp] isMl VCopsM mstep mchk lchk kchk IOp.isB k_seq k_block k_skip k_reg k_alt k_cond k_exit k_ret kf_nil kf_seq_n kf_seq_e kf_seq_r kf_blk_n kf_blk_e kf_blk_r kf_lp_n kf_lp_e kf_lp_r kf_cut_n kf_cut_e kf_cut_r mkTm VCops VCalt istep act gd applyE wrapD Opd.ev get_mk set_mk set_mk0 tget16 tset16 tget_0 tset_0 tget_1 tset_1 tget_2 tset_2 tget_3 tset_3 tget_4 tset_4 tget_5 tset_5 tget_6 tset_6 tget_7 tset_7 tget_8 tset_8 tget_9 tset_9 tget_10 tset_10 tget_11 tset_11 tget_12 tset_12 tget_13 tset_13 tget_14 tset_14 tget_15 tset_15 D.un D.gu gus IOp.opds binD fnPost getRes IRes.get oneRes D.out outL D.clos closL D.norow norowL D.lv lvL D.scal scalL D.cells D.cell D.cell' St.lk obPut obDel List.lookup cut pickD splice fillParts fillRows elem_cons newsOf D.pl D.forget forgetL Ob.forget forgetO eqCells sg leD leDL leOb apartK St.le D.keys keysL D.rows rowsL obKeys addKeys reach pos D.ren renL Ob.ren inM outM inObs outObs goneK apartN okNames_eq okNms obNms namesOK_nil namesOK_cons freeOK_nil freeOK_cons D.frz frzL Ob.frz frzO St.frz forgetLs dropObs putObs hcall freeOf keeps baseN shD isShift shMax k_bad VCopsG frz_nil actx actc cnum vwCut St.frzT St.opnT St.clsT D.opn opnL Ob.opn opnO VCou VCcx St.oneS D.objI D.objK St.objP St.objQ St.pathR St.pathI pathL scrL D.scr St.opnS St.clsS D.cellS D.fzs fzsL k_mrk k_mrq IOper.gh St.bxS D.tob tobL Ob.tob tobO zI zC zw zz zg zm zi zb zf zl za zs zn zo zd zy zu ze zk zt zc zp
set_option maxRecDepth 100000 in
set_option maxHeartbeats 8000000 in
theorem v_CTake (h1 : T.sp n_net_Take = some sp_NTake0) : Verified T ir_take2 sp_CTake := by
  refine Verified.mkx (hs := hsI pTak (.tup [])) rfl ?_
  rintro ds ob ⟨n, ls, P, t, up, xs, rfl, rfl, hc, hup, ht, kd, st, to, lb, pk, kp, c1, c2, c3, c4, c5, ln, rfl, hA, hk⟩ R hR
  rw [hsI_F] at hR
  obtain ⟨hs, hto, hlb, hpk, _, _⟩ := hA
  have x1 : sp_NTake0.hx = none := rfl
  have p1 := ntake_pre hc hs hto hpk hk
  have f1 := ntake_F (cfgD n ls P) (flyE (n * n)) (.int .i64 st) (.int .i64 to) (.int .i64 pk) (.int .i64 kd)
  obtain ⟨l, rfl⟩ : ∃ l : Nat, lb = l := ⟨lb.toNat, by omega⟩
  obtain ⟨s, rfl⟩ : ∃ s : Nat, to = s := ⟨to.toNat, by omega⟩
  have hln : l < ls.length := by omega
  have hsn : s < n := by omega
  simp only [Int.toNat_natCast] at p1
  simp only [clO, clB, upsO, worldsO, storesO, wC, flyE, aC] at hR p1 f1 ⊢
  generalize List.replicate (n * n) noMs = fl at *
  generalize hcs : ls.map lbc = cs at *
  generalize ls.length = L at *
  simp only [cfgD, hcs] at p1 f1
  have hei := elem_rep [D.sbx [.sub 2 (List.replicate n eTape), .sub 2 (List.replicate n eDesk), .sub 1 (List.replicate n [.fz 4 []]), .fz 1 fl, .sub 6 [], .sub 1 []]] hln
  have hsl := elem_rep [D.sub 4 (List.replicate L eSto)] hsn
  unfold zMsg at f1
  obtain ⟨B, hB⟩ : ∃ B : IC, ir_take2.body = .mrk [zz (.gou 1003 [(4, 1), (0, 901)])] (.seq (.reg [zu 3 1]) (.seq (.alt [[zm 12 0, zn 13 12, zf 14 3 13, zl 15 14, zf 16 3 3, zl 17 16, zy 18 1 15 17, zl 19 18, zm 4 19]]) (.seq (.alt [[zm 21 0, zn 22 21, zf 23 0 22, za 24 3 23, zm 25 4, zn 26 25, zf 27 3 26, zl 28 27, zf 29 1 3, zl 30 29, zf 31 2 3, zl 32 31, zf 33 4 3, zl 34 33, zf 35 0 3, zl 36 35, zw 37 (.call n_net_Take [.t 24, .t 28, .t 30, .t 32, .t 34, .t 36]), zm 20 37, ze 38 20 0, ze 39 20 1, ze 40 20 2, zw 6 (.alloc [zI 0, zI 0, zI 0, zI 0, zI 0, zI 0, zI 0, zI 0, zI 0, zI 0, .bool false, zI 0]), zm 5 38, zs 12 6 39, zm 7 40]]) (.seq (.seq (.reg [zm 41 7, zc 42 .neq 41 0]) (.cond (.t 42) (.mrk [zz (.gcx 1003 [4, 1, 0])] .ret) .skip)) B)))) := ⟨_, rfl⟩
  have hn138 : ir_take2.n = 138 := rfl
  have hres : ir_take2.res = [] := rfl
  rw [hB, hn138, hres]
  obtain ⟨C1, hC1⟩ : ∃ C : IC, C = (.seq (.seq (.reg [zm 41 7, zc 42 .neq 41 0]) (.cond (.t 42) (.mrk [zz (.gcx 1003 [4, 1, 0])] .ret) .skip)) B) := ⟨_, rfl⟩
  rw [← hC1]
  obtain ⟨C2, hC2⟩ : ∃ C : IC, C = (.seq (.alt [[zm 21 0, zn 22 21, zf 23 0 22, za 24 3 23, zm 25 4, zn 26 25, zf 27 3 26, zl 28 27, zf 29 1 3, zl 30 29, zf 31 2 3, zl 32 31, zf 33 4 3, zl 34 33, zf 35 0 3, zl 36 35, zw 37 (.call n_net_Take [.t 24, .t 28, .t 30, .t 32, .t 34, .t 36]), zm 20 37, ze 38 20 0, ze 39 20 1, ze 40 20 2, zw 6 (.alloc [zI 0, zI 0, zI 0, zI 0, zI 0, zI 0, zI 0, zI 0, zI 0, zI 0, .bool false, zI 0]), zm 5 38, zs 12 6 39, zm 7 40]]) C1) := ⟨_, rfl⟩
  rw [← hC2]
  obtain ⟨C3, hC3⟩ : ∃ C : IC, C = (.seq (.reg [zu 3 1]) (.seq (.alt [[zm 12 0, zn 13 12, zf 14 3 13, zl 15 14, zf 16 3 3, zl 17 16, zy 18 1 15 17, zl 19 18, zm 4 19]]) C2)) := ⟨_, rfl⟩
  rw [← hC3]
  simp (implicitDefEqProofs := false) (maxSteps := 10000000) [-List.lookup_eq_none_iff, hln, hei, hsn, hsl, h1, x1, f1, p1, rep_set]
  rw [hC3]
  simp (implicitDefEqProofs := false) (maxSteps := 10000000) [-List.lookup_eq_none_iff, hln, hei, hsn, hsl, h1, x1, f1, p1, rep_set]
  rw [hC2]
  simp (implicitDefEqProofs := false) (maxSteps := 10000000) [-List.lookup_eq_none_iff, hln, hei, hsn, hsl, h1, x1, f1, p1, rep_set]
  rw [hC1]
  simp (implicitDefEqProofs := false) (maxSteps := 10000000) [-List.lookup_eq_none_iff, hln, hei, hsn, hsl, h1, x1, f1, p1, rep_set]
  exact hR _ [] (by simp (implicitDefEqProofs := false) (maxSteps := 10000000))
end
end Go.Proofs.YtgioabhamihfmaaGreatDoor
