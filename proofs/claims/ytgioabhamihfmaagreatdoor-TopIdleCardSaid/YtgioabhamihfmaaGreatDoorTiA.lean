/-
  Where nothing is: contracts of functions on what is empty. Conditions: those of each specification's 'pre', and that the functions that are called are what theirs say.
-/
import Derived.Test.YtgioabhamihfmaaGreatDoorTq9
set_option linter.unusedVariables false
set_option linter.unusedSimpArgs false
namespace Go.Proofs.YtgioabhamihfmaaGreatDoor
open Go Go.Vcg

def noMs : List D := [.fz 12 []]
def flyE (n : Nat) : D := .fz 1 (List.replicate n noMs)
theorem elem_rep {n i : Nat} (e : List D) (h : i < n) : elem (List.replicate n e) i = e := by simp [elem, List.getD, h]
/-- A configuration that may be, small. -/
def okC (S : Int) (ls : List (Int × Int)) (P : Int) : Prop := check S ls P = 0 ∧ (1 ≤ S ∧ S ≤ 4) ∧ (1 ≤ ls.length ∧ ls.length ≤ 6)
theorem chk_F {S : Int} {ls : List (Int × Int)} {P : Int} (h : okC S ls P) : sp_Check.F [cfgD S ls P] = .int .i64 0 := by simp only [sp_Check, cfgOf_cfgD, h.1]
theorem chk_pre {S : Int} {ls : List (Int × Int)} {P : Int} : sp_Check.pre [cfgD S ls P] = True := by
  simp only [sp_Check, eq_iff_iff, iff_true]; exact ⟨_, rfl, by simp [isCfg, cfgD, isLb_lbc]⟩

/-! ### Slices that are empty -/
def sp_Cl0 (sz : Nat) : Sp := { pre := fun ds => ds = [.fz sz []], F := fun _ => .fz sz [] }
theorem cl0_F (sz : Nat) : (sp_Cl0 sz).F [.fz sz []] = .fz sz [] := rfl
theorem cl0_pre (sz : Nat) : (sp_Cl0 sz).pre [.fz sz []] = True := by simp [sp_Cl0]

/-! ### Nothing is on its way -/
def sp_NCheck0 : Sp := { pre := fun ds => ∃ S ls P, ds = [cfgD S ls P, flyE (S.toNat * S.toNat)] ∧ okC S ls P, F := fun _ => .int .i64 0 }
theorem nchk_F (a b : D) : sp_NCheck0.F [a, b] = .int .i64 0 := rfl
theorem nchk_pre {S : Int} {ls : List (Int × Int)} {P : Int} (h : okC S ls P) : sp_NCheck0.pre [cfgD S ls P, flyE (S.toNat * S.toNat)] = True := by
  simp only [sp_NCheck0, eq_iff_iff, iff_true]; exact ⟨S, ls, P, rfl, h⟩
def sp_NOwn0 : Sp := { pre := fun ds => ∃ n : Nat, ds = [flyE n] ∧ n ≤ 100, F := fun | [x] => x | _ => .any }
theorem nown_F (n : Nat) : sp_NOwn0.F [flyE n] = flyE n := rfl
theorem nown_pre {n : Nat} (h : n ≤ 100) : sp_NOwn0.pre [flyE n] = True := by
  simp only [sp_NOwn0, eq_iff_iff, iff_true]; exact ⟨n, rfl, h⟩
def zMsg : List D := [.int .i64 0, .int .i64 0, .int .i64 0, .int .i64 0, .int .i64 0, .int .i64 0, .int .i64 0, .int .i64 0, .int .i64 0, .int .i64 0, .bool false, .int .i64 0]
def sp_NEmpty : Sp := { pre := fun ds => ∃ S ls P, ds = [cfgD S ls P] ∧ okC S ls P, F := fun | [x] => .tup [flyE ((cfgOf x).1.toNat * (cfgOf x).1.toNat), .int .i64 0] | _ => .any }
theorem nemp_F (S : Int) (ls : List (Int × Int)) (P : Int) : sp_NEmpty.F [cfgD S ls P] = .tup [flyE (S.toNat * S.toNat), .int .i64 0] := by simp only [sp_NEmpty, cfgOf_cfgD]
theorem nemp_pre {S : Int} {ls : List (Int × Int)} {P : Int} (h : okC S ls P) : sp_NEmpty.pre [cfgD S ls P] = True := by
  simp only [sp_NEmpty, eq_iff_iff, iff_true]; exact ⟨S, ls, P, rfl, h⟩
def sp_NSend0 : Sp := { pre := fun ds => ∃ S ls P, ds = [cfgD S ls P, flyE (S.toNat * S.toNat), .fz 12 []] ∧ okC S ls P, F := fun | [_, x, _] => .tup [x, .int .i64 0] | _ => .any }
theorem nsend_F (a b c : D) : sp_NSend0.F [a, b, c] = .tup [b, .int .i64 0] := rfl
theorem nsend_pre {S : Int} {ls : List (Int × Int)} {P : Int} (h : okC S ls P) : sp_NSend0.pre [cfgD S ls P, flyE (S.toNat * S.toNat), .fz 12 []] = True := by
  simp only [sp_NSend0, eq_iff_iff, iff_true]; exact ⟨S, ls, P, rfl, h⟩
def sp_NTake0 : Sp := { pre := fun ds => ∃ S ls P a b k kd, ds = [cfgD S ls P, flyE (S.toNat * S.toNat), .int .i64 a, .int .i64 b, .int .i64 k, .int .i64 kd] ∧ okC S ls P ∧ (0 ≤ a ∧ a < S) ∧ (0 ≤ b ∧ b < S) ∧ 0 ≤ k ∧ (kd = 2 ∨ kd = 3 ∨ kd = 4), F := fun _ => .tup [.fz 1 [], .agg zMsg, .int .i64 6] }
theorem ntake_F (a b c d e f : D) : sp_NTake0.F [a, b, c, d, e, f] = .tup [.fz 1 [], .agg zMsg, .int .i64 6] := rfl
theorem ntake_pre {S : Int} {ls : List (Int × Int)} {P a b k kd : Int} (h : okC S ls P) (ha : 0 ≤ a ∧ a < S) (hb : 0 ≤ b ∧ b < S) (hk : 0 ≤ k) (hd : kd = 2 ∨ kd = 3 ∨ kd = 4) : sp_NTake0.pre [cfgD S ls P, flyE (S.toNat * S.toNat), .int .i64 a, .int .i64 b, .int .i64 k, .int .i64 kd] = True := by
  simp only [sp_NTake0, eq_iff_iff, iff_true]; exact ⟨S, ls, P, a, b, k, kd, rfl, h, ha, hb, hk, hd⟩
theorem idx_lt {S a b : Int} (hS : 1 ≤ S ∧ S ≤ 4) (ha : 0 ≤ a ∧ a < S) (hb : 0 ≤ b ∧ b < S) : 0 ≤ a * S + b ∧ a * S + b < ((S.toNat * S.toNat : Nat) : Int) ∧ inR .i64 (a * S) ∧ inR .i64 (a * S + b) := by
  simp only [inR]
  rcases (show S = 1 ∨ S = 2 ∨ S = 3 ∨ S = 4 by omega) with rfl | rfl | rfl | rfl <;> refine ⟨by omega, ?_, by omega, by omega⟩
  · show a * 1 + b < 1; omega
  · show a * 2 + b < 4; omega
  · show a * 3 + b < 9; omega
  · show a * 4 + b < 16; omega
def eTape : List D := [.fz 1 [], .int .i64 0]
def sp_TOpen0 : Sp := { pre := fun ds => ds = [.agg eTape], F := fun _ => .tup [.agg eTape, .bool true] }
theorem topen_F : sp_TOpen0.F [.agg eTape] = .tup [.agg eTape, .bool true] := rfl
theorem topen_pre : sp_TOpen0.pre [.agg eTape] = True := by simp [sp_TOpen0]
def sp_TCrash0 : Sp := { pre := fun ds => ∃ k : Int, ds = [.agg eTape, .int .i64 k] ∧ 0 ≤ k ∧ inR .i64 k, F := fun _ => .tup [.agg eTape, .int .i64 0] }
theorem tcrash_F (k : Int) : sp_TCrash0.F [.agg eTape, .int .i64 k] = .tup [.agg eTape, .int .i64 0] := rfl
theorem tcrash_pre {k : Int} (h : 0 ≤ k) (h2 : inR .i64 k) : sp_TCrash0.pre [.agg eTape, .int .i64 k] = True := by
  simp only [sp_TCrash0, eq_iff_iff, iff_true]; exact ⟨k, rfl, h, h2⟩
def eSto : List D := [.fz 3 [], .fz 6 [], .fz 3 [], .fz 2 []]
def sp_B0 (a : D) : Sp := { pre := fun ds => ds = [a], F := fun _ => .bool true }
theorem b0_F (a : D) : (sp_B0 a).F [a] = .bool true := rfl
theorem b0_pre (a : D) : (sp_B0 a).pre [a] = True := by simp [sp_B0]
def sp_SChk0 : Sp := { pre := fun ds => ds = [.agg eSto], F := fun _ => .int .i64 0 }
theorem schk_F : sp_SChk0.F [.agg eSto] = .int .i64 0 := rfl
theorem schk_pre : sp_SChk0.pre [.agg eSto] = True := by simp [sp_SChk0]
theorem sq_nat {S : Int} (h : 1 ≤ S ∧ S ≤ 4) : S * S = ((S.toNat * S.toNat : Nat) : Int) ∧ S.toNat * S.toNat ≤ 16 := by
  obtain ⟨n, rfl⟩ : ∃ n : Nat, S = n := ⟨S.toNat, by omega⟩
  have hn : n ≤ 4 := by omega
  refine ⟨by simp, ?_⟩
  simp only [Int.toNat_natCast]
  exact Nat.le_trans (Nat.mul_le_mul hn hn) (by decide)
section
variable {T : Tb}
attribute [local simp] isMl VCopsM mstep mchk lchk kchk IOp.isB k_seq k_block k_skip k_reg k_alt k_cond k_exit k_ret kf_nil kf_seq_n kf_seq_e kf_seq_r kf_blk_n kf_blk_e kf_blk_r kf_lp_n kf_lp_e kf_lp_r kf_cut_n kf_cut_e kf_cut_r mkTm VCops VCalt istep act gd applyE wrapD Opd.ev get_mk set_mk set_mk0 tget16 tset16 tget_0 tset_0 tget_1 tset_1 tget_2 tset_2 tget_3 tset_3 tget_4 tset_4 tget_5 tset_5 tget_6 tset_6 tget_7 tset_7 tget_8 tset_8 tget_9 tset_9 tget_10 tset_10 tget_11 tset_11 tget_12 tset_12 tget_13 tset_13 tget_14 tset_14 tget_15 tset_15 D.un D.gu gus IOp.opds binD fnPost getRes IRes.get oneRes D.out outL D.clos closL D.norow norowL D.lv lvL D.scal scalL D.cells D.cell D.cell' St.lk obPut obDel List.lookup cut pickD splice fillParts fillRows elem_cons newsOf D.pl D.forget forgetL Ob.forget forgetO eqCells sg leD leDL leOb apartK St.le D.keys keysL D.rows rowsL obKeys addKeys reach pos D.ren renL Ob.ren inM outM inObs outObs goneK apartN okNames_eq okNms obNms namesOK_nil namesOK_cons freeOK_nil freeOK_cons D.frz frzL Ob.frz frzO St.frz forgetLs dropObs putObs hcall freeOf keeps baseN shD isShift shMax k_bad VCopsG frz_nil actx actc cnum vwCut St.frzT St.opnT St.clsT D.opn opnL Ob.opn opnO VCou VCcx St.oneS D.objI D.objK St.objP St.objQ St.pathR St.pathI pathL scrL D.scr St.opnS St.clsS D.cellS D.fzs fzsL k_mrk k_mrq IOper.gh St.bxS D.tob tobL Ob.tob tobO zI zC zw zz zg zm zi zb zf zl za zs zn zo zd zy zu ze zk zt zc zp
set_option maxRecDepth 100000 in
theorem v_ClM : Verified T ir_slices_Clone_reredos_api_Message_reredos_api_Message (sp_Cl0 12) := by
  refine Verified.mk ?_
  rintro ds rfl
  rw [cl0_F]
  simp (implicitDefEqProofs := false) [ir_slices_Clone_reredos_api_Message_reredos_api_Message]
  done
set_option maxRecDepth 100000 in
set_option maxHeartbeats 4000000 in
theorem v_NCheck0 (h1 : T.sp n_label_Check = some sp_Check) : Verified T ir_net_Check sp_NCheck0 := by
  refine Verified.mk ?_
  rintro ds ⟨S, ls, P, rfl, hc⟩
  rw [nchk_F]
  have x1 : sp_Check.hx = none := rfl
  have f1 := chk_F hc
  have p1 := chk_pre (S := S) (ls := ls) (P := P)
  obtain ⟨hS, hn⟩ := sq_nat hc.2.1
  generalize S.toNat * S.toNat = n at hS hn
  have hin : inR .i64 (S * S) := by rw [hS]; simp only [inR]; omega
  unfold flyE
  generalize hcs : ls.map lbc = cs
  simp only [cfgD, hcs] at f1 p1 ⊢
  simp (implicitDefEqProofs := false) (maxSteps := 10000000) [ir_net_Check, h1, x1, f1, p1, hin, hS]
  refine ⟨?_, ?_⟩
  · simp only [inR]; omega
  refine k_loop (ι := {i : Nat // i ≤ n}) (fun y => ⟨mkTm 63 0 [(2, .own 2 0), (23, .fz 1 (List.replicate n noMs)), (24, .int .i64 n), (25, .int .i64 y.1)], [(2, .box [.int .i64 S, .fz 2 cs, .int .i64 P])]⟩)
    (fun y => n - y.1) [] ⟨0, by omega⟩ (by simp (implicitDefEqProofs := false) (maxSteps := 10000000)) ?_
  rintro ⟨i, hi⟩ Q hQ
  simp only at hQ
  by_cases h : i < n
  · have hil : (i : Int) < n := by omega
    have he := elem_rep noMs h
    unfold noMs at he ⊢
    simp (implicitDefEqProofs := false) (maxSteps := 10000000) [ir_net_Check_b2, hil, h, he]
    refine k_loop (ι := Unit) (fun y => ⟨mkTm 63 0 [(2, .own 2 0), (23, .fz 1 (List.replicate n [.fz 12 []])), (24, .int .i64 n), (25, .int .i64 i), (33, .fz 12 []), (34, .int .i64 0), (35, .int .i64 0)], [(2, .box [.int .i64 S, .fz 2 cs, .int .i64 P])]⟩)
      (fun y => 0) [] () (by simp (implicitDefEqProofs := false) (maxSteps := 10000000)) ?_
    rintro _ Q2 hQ2
    clear hQ2
    simp (implicitDefEqProofs := false) (maxSteps := 10000000) [ir_net_Check_b0, ir_net_Check_r1]
    exact ⟨by simp only [inR]; omega, hQ _ [] ⟨i + 1, by omega⟩ (by simp (implicitDefEqProofs := false) (maxSteps := 10000000) [noMs]) (by simp only; omega)⟩
  · have hin' : i = n := by omega
    subst hin'
    simp (implicitDefEqProofs := false) (maxSteps := 10000000) [ir_net_Check_b2, ir_net_Check_r3]
    done
set_option maxRecDepth 100000 in
set_option maxHeartbeats 4000000 in
theorem v_NOwn0 (h1 : T.sp n_slices_Clone_reredos_api_Message_reredos_api_Message = some (sp_Cl0 12)) : Verified T ir_net_own sp_NOwn0 := by
  refine Verified.mk ?_
  rintro ds ⟨n, rfl, hn⟩
  rw [nown_F]
  have x1 : (sp_Cl0 12).hx = none := rfl
  have f1 := cl0_F 12
  have p1 := cl0_pre 12
  unfold flyE
  simp (implicitDefEqProofs := false) (maxSteps := 10000000) [ir_net_own]
  refine k_loop (ι := {i : Nat // i ≤ n}) (fun y => ⟨mkTm 19 0 [(3, .row 100), (6, .fz 1 (List.replicate n noMs)), (7, .int .i64 n), (8, .int .i64 y.1)], [(100, .row 1 (List.replicate y.1 noMs))]⟩)
    (fun y => n - y.1) [(100, none)] ⟨0, by omega⟩ (by simp (implicitDefEqProofs := false) (maxSteps := 10000000)) ?_
  rintro ⟨i, hi⟩ Q hQ
  simp only at hQ
  by_cases h : i < n
  · have hil : (i : Int) < n := by omega
    have he := elem_rep noMs h
    have hrs : List.replicate (i + 1) noMs = List.replicate i noMs ++ [[.fz 12 []]] := by rw [List.replicate_succ']; rfl
    unfold noMs at he hrs hQ ⊢
    simp (implicitDefEqProofs := false) (maxSteps := 10000000) [ir_net_own_b0, hil, h, he, h1, x1, f1, p1]
    exact ⟨⟨by omega, by omega⟩, by simp only [inR]; omega, hQ _ [(100, some 16)] ⟨i + 1, by omega⟩ (by simp (implicitDefEqProofs := false) (maxSteps := 10000000) [hrs]) (by simp only; omega)⟩
  · have hin : i = n := by omega
    subst hin
    simp (implicitDefEqProofs := false) (maxSteps := 10000000) [ir_net_own_b0, ir_net_own_r1]
    done
set_option maxRecDepth 100000 in
set_option maxHeartbeats 4000000 in
theorem v_NEmpty (h1 : T.sp n_label_Check = some sp_Check) : Verified T ir_net_Empty sp_NEmpty := by
  refine Verified.mk ?_
  rintro ds ⟨S, ls, P, rfl, hc⟩
  rw [nemp_F]
  have x1 : sp_Check.hx = none := rfl
  have f1 := chk_F hc
  have p1 := chk_pre (S := S) (ls := ls) (P := P)
  obtain ⟨hS, hn⟩ := sq_nat hc.2.1
  generalize S.toNat * S.toNat = n at *
  have hin : inR .i64 (S * S) := by rw [hS]; simp only [inR]; omega
  unfold flyE noMs
  generalize hcs : ls.map lbc = cs
  simp only [cfgD, hcs] at f1 p1 ⊢
  simp (implicitDefEqProofs := false) (maxSteps := 10000000) [ir_net_Empty, h1, x1, f1, p1, hin, hS]
  exact ⟨by simp only [inR]; omega, by omega⟩
set_option maxRecDepth 100000 in
set_option maxHeartbeats 4000000 in
theorem v_NTake0 (h1 : T.sp n_net_Check = some sp_NCheck0) (h2 : T.sp n_net_own = some sp_NOwn0) : Verified T ir_net_Take sp_NTake0 := by
  refine Verified.mk ?_
  rintro ds ⟨S, ls, P, a, b, k, kd, rfl, hc, ha, hb, hk, hd⟩
  rw [ntake_F]
  have x1 : sp_NCheck0.hx = none := rfl
  have x2 : sp_NOwn0.hx = none := rfl
  have f1 := nchk_F (cfgD S ls P) (flyE (S.toNat * S.toNat))
  have p1 := nchk_pre hc
  obtain ⟨hS, hn⟩ := sq_nat hc.2.1
  obtain ⟨i1, i2, i3, i4⟩ := idx_lt hc.2.1 ha hb
  have f2 := nown_F (S.toNat * S.toNat)
  have p2 := nown_pre (n := S.toNat * S.toNat) (by omega)
  generalize S.toNat * S.toNat = n at *
  have he := elem_rep (n := n) (i := (a * S + b).toNat) noMs (by omega)
  generalize hj : a * S + b = j at *
  unfold flyE at *
  unfold noMs at *
  generalize hcs : ls.map lbc = cs
  simp only [cfgD, hcs] at f1 p1 ⊢
  have ha1 : ¬ a < 0 := by omega
  have ha2 : ¬ S ≤ a := by omega
  have hb1 : ¬ b < 0 := by omega
  have hb2 : ¬ S ≤ b := by omega
  have hk1 : ¬ k < 0 := by omega
  rcases hd with rfl | rfl | rfl
  all_goals simp (implicitDefEqProofs := false) (maxSteps := 10000000) [ir_net_Take, h1, x1, f1, p1, h2, x2, f2, p2, ha1, ha2, hb1, hb2, hk1, i1, i2, i3, i4, he, hj, zMsg]
  all_goals done
set_option maxRecDepth 100000 in
set_option maxHeartbeats 4000000 in
theorem v_NSend0 (h1 : T.sp n_net_Check = some sp_NCheck0) (h2 : T.sp n_net_own = some sp_NOwn0) : Verified T ir_net_Send sp_NSend0 := by
  refine Verified.mk ?_
  rintro ds ⟨S, ls, P, rfl, hc⟩
  rw [nsend_F]
  have x1 : sp_NCheck0.hx = none := rfl
  have x2 : sp_NOwn0.hx = none := rfl
  have f1 := nchk_F (cfgD S ls P) (flyE (S.toNat * S.toNat))
  have p1 := nchk_pre hc
  obtain ⟨hS, hn⟩ := sq_nat hc.2.1
  have f2 := nown_F (S.toNat * S.toNat)
  have p2 := nown_pre (n := S.toNat * S.toNat) (by omega)
  generalize S.toNat * S.toNat = n at *
  unfold flyE at *
  generalize List.replicate n noMs = fl at *
  generalize hcs : ls.map lbc = cs
  simp only [cfgD, hcs] at f1 p1 ⊢
  simp (implicitDefEqProofs := false) (maxSteps := 10000000) [ir_net_Send, h1, x1, f1, p1]
  refine k_loop (ι := Unit) (fun y => ⟨mkTm 69 0 [(1, .fz 1 fl), (2, .fz 12 []), (3, .own 3 0), (22, .fz 12 []), (23, .int .i64 0), (24, .int .i64 0)], [(3, .box [.int .i64 S, .fz 2 cs, .int .i64 P])]⟩)
    (fun y => 0) [] () (by simp (implicitDefEqProofs := false) (maxSteps := 10000000)) ?_
  rintro _ Q2 hQ2
  clear hQ2
  simp (implicitDefEqProofs := false) (maxSteps := 10000000) [ir_net_Send_b0, ir_net_Send_r3, h2, x2, f2, p2]
  refine k_loop (ι := Unit) (fun y => ⟨mkTm 69 0 [(3, .own 3 0), (12, .fz 1 fl), (37, .fz 12 []), (38, .int .i64 0), (39, .int .i64 0)], [(3, .box [.int .i64 S, .fz 2 cs, .int .i64 P])]⟩)
    (fun y => 0) [] () (by simp (implicitDefEqProofs := false) (maxSteps := 10000000)) ?_
  rintro _ Q2 hQ2
  clear hQ2
  simp (implicitDefEqProofs := false) (maxSteps := 10000000) [ir_net_Send_b1, ir_net_Send_r2]
  done
set_option maxRecDepth 100000 in
theorem v_ClB : Verified T ir_slices_Clone_byte_byte (sp_Cl0 1) := by
  refine Verified.mk ?_
  rintro ds rfl
  rw [cl0_F]
  simp (implicitDefEqProofs := false) [ir_slices_Clone_byte_byte]
  done
set_option maxRecDepth 100000 in
theorem v_TOpen0 (h1 : T.sp n_slices_Clone_byte_byte = some (sp_Cl0 1)) : Verified T ir_tape_open sp_TOpen0 := by
  refine Verified.mk ?_
  rintro ds rfl
  rw [topen_F]
  have x1 : (sp_Cl0 1).hx = none := rfl
  have f1 := cl0_F 1
  have p1 := cl0_pre 1
  unfold eTape
  simp (implicitDefEqProofs := false) (maxSteps := 10000000) [ir_tape_open, h1, x1, f1, p1]
  done
set_option maxRecDepth 100000 in
theorem v_TCrash0 (h1 : T.sp n_tape_open = some sp_TOpen0) : Verified T ir_tape_Crash sp_TCrash0 := by
  refine Verified.mk ?_
  rintro ds ⟨k, rfl, hk, hk2⟩
  rw [tcrash_F]
  have x1 : sp_TOpen0.hx = none := rfl
  have f1 := topen_F
  have p1 := topen_pre
  have hk1 : ¬ k < 0 := by omega
  have hmin : min k 0 = 0 := by omega
  unfold eTape at *
  simp (implicitDefEqProofs := false) (maxSteps := 10000000) [ir_tape_Crash, h1, x1, f1, p1, hk1, hmin]
  simp only [inR]; omega
end
end Go.Proofs.YtgioabhamihfmaaGreatDoor
