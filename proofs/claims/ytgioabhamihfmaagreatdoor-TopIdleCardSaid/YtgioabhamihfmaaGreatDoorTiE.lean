/-
  Where nothing is: a fresh cluster. Conditions: those of each specification's 'pre', and that the functions that are called are what theirs say.
-/
import Derived.Test.YtgioabhamihfmaaGreatDoorTiD
set_option linter.unusedVariables false
set_option linter.unusedSimpArgs false
namespace Go.Proofs.YtgioabhamihfmaaGreatDoor
open Go Go.Vcg

/-- A world where nothing is. -/
def wC (n : Nat) : List D := [.sub 2 (List.replicate n eTape), .sub 2 (List.replicate n eDesk), .sub 1 (List.replicate n [.fz 4 []]), flyE (n * n), .sub 6 [], .sub 1 []]
def worldsO (L n : Nat) : Ob := .rws 1 (List.replicate L [.sbx (wC n)])
def storesO (L n : Nat) : Ob := .rws 1 (List.replicate n [.sub 4 (List.replicate L eSto)])
def upsO (up : List Bool) : Ob := .row 1 (up.map fun b => [.bool b])
def clB (S : Int) (cs : List (List D)) (P : Int) (a b c : Nat) (t : Int) : Ob := .box [.int .i64 S, .fz 2 cs, .int .i64 P, .row a, .row b, .row c, .int .i64 t, .nl 1]
def freF (ds : List D) : D × List (Nat × Ob) :=
  match ds with
  | [.agg [.int _ S, .fz _ cs, .int _ P]] => (.own 1 0, [(1, clB S cs P 2 3 4 0), (2, worldsO cs.length S.toNat), (3, storesO cs.length S.toNat), (4, upsO (List.replicate S.toNat true))])
  | _ => (.any, [])
def pCfg1 (ds : List D) : Prop := ∃ S ls P, ds = [cfgD S ls P] ∧ okC S ls P
theorem pCfg1_eq {S : Int} {ls : List (Int × Int)} {P : Int} (h : okC S ls P) : pCfg1 [cfgD S ls P] = True := by
  simp only [pCfg1, eq_iff_iff, iff_true]; exact ⟨S, ls, P, rfl, h⟩
def hs_Fresh : HSp := ⟨fun ds ob => ob = [] ∧ pCfg1 ds, fun ds _ => freF ds⟩
def sp_Fresh : Sp := { pre := fun _ => True, F := fun _ => .any, hx := some hs_Fresh }
theorem fre_hx : sp_Fresh.hx = some hs_Fresh := rfl
theorem fre_F (S P : Int) (cs : List (List D)) (ob : List (Nat × Ob)) : hs_Fresh.F [.agg [.int .i64 S, .fz 2 cs, .int .i64 P]] ob = (.own 1 0, [(1, clB S cs P 2 3 4 0), (2, worldsO cs.length S.toNat), (3, storesO cs.length S.toNat), (4, upsO (List.replicate S.toNat true))]) := rfl
theorem fre_pre (ds : List D) : hs_Fresh.pre ds [] = pCfg1 ds := by simp [hs_Fresh]
theorem rep_succ {α : Type} (n : Nat) (a : α) : List.replicate (n + 1) a = List.replicate n a ++ [a] := List.replicate_succ'

section
variable {T : Tb}
attribute [local simp] isMl VCopsM mstep mchk lchk kchk IOp.isB k_seq k_block k_skip k_reg k_alt k_cond k_exit k_ret kf_nil kf_seq_n kf_seq_e kf_seq_r kf_blk_n kf_blk_e kf_blk_r kf_lp_n kf_lp_e kf_lp_r kf_cut_n kf_cut_e kf_cut_r mkTm VCops VCalt istep act gd applyE wrapD Opd.ev get_mk set_mk set_mk0 tget16 tset16 tget_0 tset_0 tget_1 tset_1 tget_2 tset_2 tget_3 tset_3 tget_4 tset_4 tget_5 tset_5 tget_6 tset_6 tget_7 tset_7 tget_8 tset_8 tget_9 tset_9 tget_10 tset_10 tget_11 tset_11 tget_12 tset_12 tget_13 tset_13 tget_14 tset_14 tget_15 tset_15 D.un D.gu gus IOp.opds binD fnPost getRes IRes.get oneRes D.out outL D.clos closL D.norow norowL D.lv lvL D.scal scalL D.cells D.cell D.cell' St.lk obPut obDel List.lookup cut pickD splice fillParts fillRows elem_cons newsOf D.pl D.forget forgetL Ob.forget forgetO eqCells sg leD leDL leOb apartK St.le D.keys keysL D.rows rowsL obKeys addKeys reach pos D.ren renL Ob.ren inM outM inObs outObs goneK apartN okNames_eq okNms obNms namesOK_nil namesOK_cons freeOK_nil freeOK_cons D.frz frzL Ob.frz frzO St.frz forgetLs dropObs putObs hcall freeOf keeps baseN shD isShift shMax k_bad VCopsG frz_nil actx actc cnum vwCut St.frzT St.opnT St.clsT D.opn opnL Ob.opn opnO VCou VCcx St.oneS D.objI D.objK St.objP St.objQ St.pathR St.pathI pathL scrL D.scr St.opnS St.clsS D.cellS D.fzs fzsL k_mrk k_mrq IOper.gh St.bxS D.tob tobL Ob.tob tobO zI zC zw zz zg zm zi zb zf zl za zs zn zo zd zy zu ze zk zt zc zp
set_option maxRecDepth 100000 in
set_option maxHeartbeats 8000000 in
theorem v_Fresh (h1 : T.sp n_net_Empty = some sp_NEmpty) : Verified T ir_cluster_fresh sp_Fresh := by
  refine Verified.mkx (hs := hs_Fresh) rfl ?_
  rintro ds ob ⟨rfl, S, ls, P, rfl, hc⟩ R hR
  have x1 : sp_NEmpty.hx = none := rfl
  have f1 := nemp_F S ls P
  have p1 := nemp_pre hc
  have hlen : (ls.map lbc).length = ls.length := by simp
  obtain ⟨hL1, hL2⟩ := hc.2.2
  obtain ⟨hS1, hS2⟩ := hc.2.1
  obtain ⟨n, rfl⟩ : ∃ n : Nat, S = n := ⟨S.toNat, by omega⟩
  simp only [Int.toNat_natCast] at f1
  unfold flyE at f1
  generalize hfl : List.replicate (n * n) noMs = fl at f1
  generalize hcs : ls.map lbc = cs at *
  generalize ls.length = L at *
  simp only [cfgD, hcs] at f1 p1 hR ⊢
  rw [fre_F] at hR
  simp only [clB, worldsO, storesO, upsO, wC, flyE, hfl, Int.toNat_natCast, hlen, List.map_replicate] at hR
  simp (implicitDefEqProofs := false) (maxSteps := 10000000) [ir_cluster_fresh, hlen]
  refine k_loop (ι := {i : Nat // i ≤ L}) (fun y => ⟨mkTm 96 0 [(1, .own 1 0), (3, .own 7 0), (10, .int .i64 L), (11, .int .i64 y.1)], [(1, .box [.int .i64 n, .fz 2 cs, .int .i64 P]), (7, .box [.int .i64 n, .fz 2 cs, .int .i64 P, .row 100, .nl 1, .nl 1, .int .i64 0, .nl 1]), (100, .rws 1 (List.replicate y.1 [.sbx [.sub 2 (List.replicate n eTape), .sub 2 (List.replicate n eDesk), .sub 1 (List.replicate n [.fz 4 []]), .fz 1 fl, .sub 6 [], .sub 1 []]]))]⟩)
    (fun y => L - y.1) [(100, none)] ⟨0, by omega⟩ (by simp (implicitDefEqProofs := false) (maxSteps := 10000000)) ?_
  rintro ⟨i, hi⟩ Q hQ
  simp only at hQ
  by_cases h : i < L
  · have hil : (i : Int) < L := by omega
    simp (implicitDefEqProofs := false) (maxSteps := 10000000) [ir_cluster_fresh_b3, hil, h1, x1, f1, p1]
    refine k_loop (ι := {i : Nat // i ≤ n}) (fun y => ⟨mkTm 96 0 [(1, .own 1 0), (3, .own 7 0), (4, .own 14 0), (10, .int .i64 L), (11, .int .i64 i), (24, .int .i64 n), (25, .int .i64 y.1)], [(1, .box [.int .i64 n, .fz 2 cs, .int .i64 P]), (7, .box [.int .i64 n, .fz 2 cs, .int .i64 P, .row 100, .nl 1, .nl 1, .int .i64 0, .nl 1]), (100, .rws 1 (List.replicate i [.sbx [.sub 2 (List.replicate n eTape), .sub 2 (List.replicate n eDesk), .sub 1 (List.replicate n [.fz 4 []]), .fz 1 fl, .sub 6 [], .sub 1 []]])),
      (14, .box [.row 101, .row 102, .row 103, .fz 1 fl, .nl 6, .nl 1]), (101, .row 2 (List.replicate y.1 eTape)), (102, .row 2 (List.replicate y.1 eDesk)), (103, .row 1 (List.replicate y.1 [.fz 4 []]))]⟩)
      (fun y => n - y.1) [(101, none), (102, none), (103, none)] ⟨0, by omega⟩ (by simp (implicitDefEqProofs := false) (maxSteps := 10000000)) ?_
    rintro ⟨j, hj⟩ Q2 hQ2
    simp only at hQ2
    by_cases h' : j < n
    · have hjl : (j : Int) < n := by omega
      simp (implicitDefEqProofs := false) (maxSteps := 10000000) [ir_cluster_fresh_b0, hjl]
      refine ⟨⟨by omega, by omega⟩, ⟨by omega, by omega⟩, ⟨by omega, by omega⟩, ?_⟩
      exact hQ2 _ [(101, some 36), (102, some 43), (103, some 49)] ⟨j + 1, by omega⟩ (by simp (implicitDefEqProofs := false) (maxSteps := 10000000) [rep_succ, eTape, eDesk]) (by simp only; omega)
    · have hjn : j = n := by omega
      subst hjn
      simp (implicitDefEqProofs := false) (maxSteps := 10000000) [ir_cluster_fresh_b0, ir_cluster_fresh_r1, ir_cluster_fresh_r2]
      refine ⟨⟨by omega, by omega⟩, by simp only [inR]; omega, ?_⟩
      exact hQ _ [(100, some 64)] ⟨i + 1, by omega⟩ (by simp (implicitDefEqProofs := false) (maxSteps := 10000000) [rep_succ]) (by simp only; omega)
  · have hin : i = L := by omega
    subst hin
    simp (implicitDefEqProofs := false) (maxSteps := 10000000) [ir_cluster_fresh_b3, ir_cluster_fresh_r6]
    refine k_loop (ι := {j : Nat // j ≤ n}) (fun y => ⟨mkTm 96 0 [(1, .own 1 0), (3, .own 7 0), (69, .int .i64 n), (70, .int .i64 y.1)], [(1, .box [.int .i64 n, .fz 2 cs, .int .i64 P]), (7, .box [.int .i64 n, .fz 2 cs, .int .i64 P, .row 100, .row 104, .row 105, .int .i64 0, .nl 1]), (100, .rws 1 (List.replicate i [.sbx [.sub 2 (List.replicate n eTape), .sub 2 (List.replicate n eDesk), .sub 1 (List.replicate n [.fz 4 []]), .fz 1 fl, .sub 6 [], .sub 1 []]])),
      (104, .rws 1 (List.replicate y.1 [.sub 4 (List.replicate i eSto)])), (105, .row 1 (List.replicate y.1 [.bool true]))]⟩)
      (fun y => n - y.1) [(104, none), (105, none)] ⟨0, by omega⟩ (by simp (implicitDefEqProofs := false) (maxSteps := 10000000)) ?_
    rintro ⟨j, hj⟩ Q2 hQ2
    simp only at hQ2
    by_cases h' : j < n
    · have hjl : (j : Int) < n := by omega
      simp (implicitDefEqProofs := false) (maxSteps := 10000000) [ir_cluster_fresh_b4, hjl, hlen]
      refine ⟨⟨by omega, by omega⟩, ⟨by omega, by omega⟩, ⟨by omega, by omega⟩, by simp only [inR]; omega, ?_⟩
      exact hQ2 _ [(104, some 83), (105, some 89)] ⟨j + 1, by omega⟩ (by simp (implicitDefEqProofs := false) (maxSteps := 10000000) [rep_succ, eSto]) (by simp only; omega)
    · have hjn : j = n := by omega
      subst hjn
      simp (implicitDefEqProofs := false) (maxSteps := 10000000) [ir_cluster_fresh_b4, ir_cluster_fresh_r5]
      exact hR _ [(1, some 7), (2, some 100), (3, some 104), (4, some 105)] (by simp (implicitDefEqProofs := false) (maxSteps := 10000000))
end
end Go.Proofs.YtgioabhamihfmaaGreatDoor
