/-
  Where nobody asks for anything nothing happens: the law's function says so. Conditions: those of its specification's 'pre', and that the functions that are called are what theirs say.
-/
import Derived.Test.YtgioabhamihfmaaGreatDoorTiK
set_option linter.unusedVariables false
set_option linter.unusedSimpArgs false
namespace Go.Proofs.YtgioabhamihfmaaGreatDoor
open Go Go.Vcg

def sp_Same0 : Sp := spC (fun ds => ds = [.agg eSto, .agg eSto]) (.bool true)
def sp_Ran : Sp := {
  pre := fun ds => ∃ (S : Int) (ls : List (Int × Int)) (P : Int) (av : List Ac), ds = [cfgD S ls P, .fz 12 (av.map actC)] ∧ okC S ls P ∧ av.length ≤ 2000 ∧ ∀ a ∈ av, idle S ls.length a
  F := fun | [c, .fz _ es] => .tup [outD (cfgOf c).1.toNat (cfgOf c).2.1.length (runI (cfgOf c).1.toNat (es.map actL)), .bool true] | _ => .any }
theorem ran_F (S : Int) (ls : List (Int × Int)) (P : Int) (av : List Ac) : sp_Ran.F [cfgD S ls P, .fz 12 (av.map actC)] = .tup [outD S.toNat ls.length (runI S.toNat av), .bool true] := by
  simp only [sp_Ran, cfgOf_cfgD, actL_map]
theorem ran_pre {S : Int} {ls : List (Int × Int)} {P : Int} {av : List Ac} (hc : okC S ls P) (hl : av.length ≤ 2000) (h : ∀ a ∈ av, idle S ls.length a) : sp_Ran.pre [cfgD S ls P, .fz 12 (av.map actC)] = True := by
  simp only [sp_Ran, eq_iff_iff, iff_true]; exact ⟨S, ls, P, av, rfl, hc, hl, h⟩
def idleB (a : Ac) : Bool := decide (a.kind ≠ 1) && decide (a.kind ≠ 8)
def sp_TopIdle : Sp := { pre := fun ds => ∃ (s : Int) (ns : List Int) (p : Int) (rs : List Rw), ds = [.int .i64 s, intsD ns, .int .i64 p, rawsD rs] ∧ inR .i64 s ∧ okInts ns ∧ inR .i64 p ∧ okRaws rs, F := fun _ => .bool true }
theorem kind_of {S : Int} {L : Nat} {a : Ac} (h : actE S L a = 0) : 1 ≤ a.kind ∧ a.kind ≤ 8 := by
  unfold actE at h
  split at h
  · cases h
  · omega
theorem idle_of {S : Int} {L : Nat} {a : Ac} (h : actE S L a = 0) (hb : idleB a = true) : idle S L a := by
  have := kind_of h
  simp only [idleB, Bool.and_eq_true, decide_eq_true_eq] at hb
  exact ⟨h, by omega, by omega⟩

section
variable {T : Tb}
attribute [local simp] isMl VCopsM mstep mchk lchk kchk IOp.isB k_seq k_block k_skip k_reg k_alt k_cond k_exit k_ret kf_nil kf_seq_n kf_seq_e kf_seq_r kf_blk_n kf_blk_e kf_blk_r kf_lp_n kf_lp_e kf_lp_r kf_cut_n kf_cut_e kf_cut_r mkTm VCops VCalt istep act gd applyE wrapD Opd.ev get_mk set_mk set_mk0 tget16 tset16 tget_0 tset_0 tget_1 tset_1 tget_2 tset_2 tget_3 tset_3 tget_4 tset_4 tget_5 tset_5 tget_6 tset_6 tget_7 tset_7 tget_8 tset_8 tget_9 tset_9 tget_10 tset_10 tget_11 tset_11 tget_12 tset_12 tget_13 tset_13 tget_14 tset_14 tget_15 tset_15 D.un D.gu gus IOp.opds binD fnPost getRes IRes.get oneRes D.out outL D.clos closL D.norow norowL D.lv lvL D.scal scalL D.cells D.cell D.cell' St.lk obPut obDel List.lookup cut pickD splice fillParts fillRows elem_cons newsOf D.pl D.forget forgetL Ob.forget forgetO eqCells sg leD leDL leOb apartK St.le D.keys keysL D.rows rowsL obKeys addKeys reach pos D.ren renL Ob.ren inM outM inObs outObs goneK apartN okNames_eq okNms obNms namesOK_nil namesOK_cons freeOK_nil freeOK_cons D.frz frzL Ob.frz frzO St.frz forgetLs dropObs putObs hcall freeOf keeps baseN shD isShift shMax k_bad VCopsG frz_nil actx actc cnum vwCut St.frzT St.opnT St.clsT D.opn opnL Ob.opn opnO VCou VCcx St.oneS D.objI D.objK St.objP St.objQ St.pathR St.pathI pathL scrL D.scr St.opnS St.clsS D.cellS D.fzs fzsL k_mrk k_mrq IOper.gh St.bxS D.tob tobL Ob.tob tobO zI zC zw zz zg zm zi zb zf zl za zs zn zo zd zy zu ze zk zt zc zp
set_option maxRecDepth 100000 in
set_option maxHeartbeats 4000000 in
theorem v_Same0 : Verified T ir_reredostop_sameStore sp_Same0 := by
  refine Verified.mk ?_
  rintro ds rfl
  simp only [sp_Same0]
  rw [spC_F]
  unfold eSto
  simp (implicitDefEqProofs := false) (maxSteps := 10000000) [-List.lookup_eq_none_iff, ir_reredostop_sameStore]
  refine k_loop (ι := Unit) (fun y => ⟨mkTm 115 0 [(2, .own 2 0), (3, .own 3 0), (45, .int .i64 0), (46, .int .i64 0)], [(2, .box [.fz 3 [], .fz 6 [], .fz 3 [], .fz 2 []]), (3, .box [.fz 3 [], .fz 6 [], .fz 3 [], .fz 2 []])]⟩) (fun y => 0) [] () (by simp (implicitDefEqProofs := false) (maxSteps := 10000000)) ?_
  rintro _ Q hQ
  clear hQ
  simp (implicitDefEqProofs := false) (maxSteps := 10000000) [-List.lookup_eq_none_iff, ir_reredostop_sameStore_b0, ir_reredostop_sameStore_r7]
  refine k_loop (ι := Unit) (fun y => ⟨mkTm 115 0 [(2, .own 2 0), (3, .own 3 0), (63, .int .i64 0), (64, .int .i64 0)], [(2, .box [.fz 3 [], .fz 6 [], .fz 3 [], .fz 2 []]), (3, .box [.fz 3 [], .fz 6 [], .fz 3 [], .fz 2 []])]⟩) (fun y => 0) [] () (by simp (implicitDefEqProofs := false) (maxSteps := 10000000)) ?_
  rintro _ Q hQ
  clear hQ
  simp (implicitDefEqProofs := false) (maxSteps := 10000000) [-List.lookup_eq_none_iff, ir_reredostop_sameStore_b1, ir_reredostop_sameStore_r6]
  refine k_loop (ι := Unit) (fun y => ⟨mkTm 115 0 [(2, .own 2 0), (3, .own 3 0), (81, .int .i64 0), (82, .int .i64 0)], [(2, .box [.fz 3 [], .fz 6 [], .fz 3 [], .fz 2 []]), (3, .box [.fz 3 [], .fz 6 [], .fz 3 [], .fz 2 []])]⟩) (fun y => 0) [] () (by simp (implicitDefEqProofs := false) (maxSteps := 10000000)) ?_
  rintro _ Q hQ
  clear hQ
  simp (implicitDefEqProofs := false) (maxSteps := 10000000) [-List.lookup_eq_none_iff, ir_reredostop_sameStore_b2, ir_reredostop_sameStore_r5]
  refine k_loop (ι := Unit) (fun y => ⟨mkTm 115 0 [(99, .int .i64 0), (100, .int .i64 0)], []⟩) (fun y => 0) [] () (by simp (implicitDefEqProofs := false) (maxSteps := 10000000)) ?_
  rintro _ Q hQ
  clear hQ
  simp (implicitDefEqProofs := false) (maxSteps := 10000000) [-List.lookup_eq_none_iff, ir_reredostop_sameStore_b3, ir_reredostop_sameStore_r4]
set_option maxRecDepth 100000 in
set_option maxHeartbeats 8000000 in
theorem v_Ran (h1 : T.sp n_cluster_Run = some sp_RunI) : Verified T ir_reredostop_ran sp_Ran := by
  refine Verified.mk ?_
  rintro ds ⟨S, ls, P, av, rfl, hc, hlen, hall⟩
  rw [ran_F]
  have x1 : sp_RunI.hx = none := rfl
  have f1 := runI_F S ls P av
  have p1 := runI_pre hc hlen hall
  obtain ⟨hS1, hS2⟩ := hc.2.1
  obtain ⟨n, rfl⟩ : ∃ n : Nat, S = n := ⟨S.toNat, by omega⟩
  have hlm : (ls.map lbc).length = ls.length := by simp
  obtain ⟨hu, _, _⟩ := runI_ok n av
  simp only [Int.toNat_natCast] at f1 ⊢
  unfold outD at *
  generalize runI n av = p at *
  obtain ⟨up, t⟩ := p
  simp only at hu f1 ⊢
  generalize hcs : ls.map lbc = cs at *
  simp only [cfgD, hcs] at f1 p1 ⊢
  generalize av.map actC = es at *
  generalize (vwD n).cells = vc at *
  generalize ls.length = L at *
  simp (implicitDefEqProofs := false) (maxSteps := 10000000) [-List.lookup_eq_none_iff, ir_reredostop_ran, h1, x1, f1, p1, hlm, hu]
set_option maxRecDepth 100000 in
set_option maxHeartbeats 8000000 in
theorem v_TopIdle (h1 : T.sp n_reredoskeep_Config = some sp_Config) (h2 : T.sp n_reredoskeep_Acts = some sp_Acts) (h3 : T.sp n_reredostop_ran = some sp_Ran) (h4 : T.sp n_reredostop_sameStore = some sp_Same0) : Verified T ir_reredostop_TopIdle sp_TopIdle := by
  refine Verified.mk ?_
  rintro ds ⟨s, ns, p, rs, rfl, hs, hns, hp, hrs⟩
  have hF : sp_TopIdle.F [.int .i64 s, intsD ns, .int .i64 p, rawsD rs] = .bool true := rfl
  rw [hF]
  unfold sp_Same0 at h4
  have x1 : sp_Config.hx = none := rfl
  have x2 : sp_Acts.hx = none := rfl
  have x3 : sp_Ran.hx = none := rfl
  have b1 := pk_bounds s 3 (by decide)
  have b2 := pk_bounds p 4 (by decide)
  have f1 : sp_Config.F [.int .i64 s, intsD ns, .int .i64 p] = cfgD (1 + pk s 3) (cfgLs ns) (1 + pk p 4) := by simp only [sp_Config, intsOf_intsD]
  have p1 : sp_Config.pre [.int .i64 s, intsD ns, .int .i64 p] = True := by simp only [sp_Config, eq_iff_iff, iff_true]; exact ⟨s, ns, p, rfl, hs, hns, hp⟩
  have hck := check_config (pk s 3) (pk p 4) ns b1 b2
  have hlg := cfgLs_good ns
  obtain ⟨_, _, hg1, hg2⟩ := hlg
  have hS : 1 ≤ 1 + pk s 3 ∧ 1 + pk s 3 ≤ 4 := by omega
  generalize 1 + pk s 3 = S at f1 hck hS
  generalize 1 + pk p 4 = P at f1 hck
  generalize cfgLs ns = ls at f1 hck hg1 hg2
  have hc : okC S ls P := ⟨hck, hS, by omega, by omega⟩
  have f2 : sp_Acts.F [cfgD S ls P, rawsD rs, .int .i64 60, .bool false] = .fz 12 ((actsL false S ls.length 60 rs []).map actC) := by
    simp only [sp_Acts, cfgOf_cfgD, rawsOf_rawsD]
    rfl
  have p2 : sp_Acts.pre [cfgD S ls P, rawsD rs, .int .i64 60, .bool false] = True := by
    simp only [sp_Acts, eq_iff_iff, iff_true]
    refine ⟨cfgD S ls P, rs, 60, false, rfl, cfg_is S ls P, ?_, hrs, by decide, by decide⟩
    simp only [cfgOf_cfgD]
    omega
  have hgood := actsL_good false S ls.length 60 (by omega) (by omega) rs [] (by simp)
  have hlen := length_actsL false S ls.length 60 (by decide) rs [] (by simp)
  generalize actsL false S ls.length 60 rs [] = acts at f2 hgood hlen
  have hfl : ∀ a ∈ acts.filter idleB, idle S ls.length a := fun a ha => by
    obtain ⟨h1, h2⟩ := List.mem_filter.1 ha
    exact idle_of (hgood a h1) h2
  have hfn : (acts.filter idleB).length ≤ 2000 := Nat.le_trans (List.length_filter_le _ _) (by omega)
  have f3 := ran_F S ls P (acts.filter idleB)
  have p3 := ran_pre hc hfn hfl
  have hel := fun i (h : i < acts.length) => elem_map actC acts i h
  have hes : (acts.map actC).length = acts.length := by simp
  unfold intsD rawsD at *
  generalize hcs : ls.map lbc = cs at *
  have hlm : cs.length = ls.length := by rw [← hcs]; simp
  generalize ls.length = L at *
  obtain ⟨n, rfl⟩ : ∃ n : Nat, S = n := ⟨S.toNat, by omega⟩
  obtain ⟨hu, _, _⟩ := runI_ok n (acts.filter idleB)
  simp only [Int.toNat_natCast] at f3
  generalize runI n (acts.filter idleB) = pr at *
  simp only [cfgD, hcs] at f1 f2 p2 f3 p3
  generalize hEs : acts.map actC = es at *
  simp (implicitDefEqProofs := false) (maxSteps := 10000000) [-List.lookup_eq_none_iff, ir_reredostop_TopIdle, h1, x1, f1, p1, h2, x2, f2, p2, hes]
  refine k_loop (ι := {i : Nat // i ≤ acts.length}) (fun y => ⟨mkTm 109 0 [(9, .own 9 0), (10, .row 100), (26, .fz 12 es), (27, .int .i64 acts.length), (28, .int .i64 y.1)], [(9, .box [.int .i64 n, .fz 2 cs, .int .i64 P]), (100, .row 12 (((acts.take y.1).filter idleB).map actC))]⟩)
    (fun y => acts.length - y.1) [(100, none)] ⟨0, by omega⟩ (by simp (implicitDefEqProofs := false) (maxSteps := 10000000)) ?_
  rintro ⟨i, hi⟩ Q hQ
  simp only at hQ
  by_cases h : i < acts.length
  · have hil : (i : Int) < acts.length := by omega
    have he := hel i h
    have hin : inR .i64 ((i : Int) + 1) := by simp only [inR]; omega
    have htk : (acts.take (i + 1)).filter idleB = (acts.take i).filter idleB ++ if idleB acts[i] = true then [acts[i]] else [] := by
      rw [List.take_succ_eq_append_getElem h, List.filter_append]
      congr 1
      simp only [List.filter_cons, List.filter_nil]
    have hln : ((acts.take i).filter idleB).length ≤ 2000 := Nat.le_trans (List.length_filter_le _ _) (by simp; omega)
    generalize hA : (acts.take i).filter idleB = A at *
    generalize acts[i] = a at he htk
    clear hel
    by_cases k1 : a.kind = 1
    · have hb : idleB a = false := by simp [idleB, k1]
      rw [hb] at htk
      obtain ⟨kind, site, to, label, pick, keep, ⟨c1, c2, c3, c4, c5⟩, line⟩ := a
      simp only at k1
      subst k1
      simp only [actC] at he
      simp (implicitDefEqProofs := false) (maxSteps := 10000000) [-List.lookup_eq_none_iff, ir_reredostop_TopIdle_b0, hil, hes, h, he, hin]
      exact hQ _ [] ⟨i + 1, by omega⟩ (by simp (implicitDefEqProofs := false) (maxSteps := 10000000) [-List.lookup_eq_none_iff, htk]) (by simp only; omega)
    · by_cases k8 : a.kind = 8
      · have hb : idleB a = false := by simp [idleB, k8]
        rw [hb] at htk
        obtain ⟨kind, site, to, label, pick, keep, ⟨c1, c2, c3, c4, c5⟩, line⟩ := a
        simp only at k8
        subst k8
        simp only [actC] at he
        simp (implicitDefEqProofs := false) (maxSteps := 10000000) [-List.lookup_eq_none_iff, ir_reredostop_TopIdle_b0, hil, hes, h, he, hin]
        exact hQ _ [] ⟨i + 1, by omega⟩ (by simp (implicitDefEqProofs := false) (maxSteps := 10000000) [-List.lookup_eq_none_iff, htk]) (by simp only; omega)
      · have hb : idleB a = true := by simp [idleB, k1, k8]
        rw [hb] at htk
        obtain ⟨kind, site, to, label, pick, keep, ⟨c1, c2, c3, c4, c5⟩, line⟩ := a
        simp only at k1 k8
        simp only [actC] at he
        simp (implicitDefEqProofs := false) (maxSteps := 10000000) [-List.lookup_eq_none_iff, ir_reredostop_TopIdle_b0, hil, hes, h, he, hin, k1, k8]
        refine ⟨⟨by omega, by omega⟩, ?_⟩
        exact hQ _ [(100, some 43)] ⟨i + 1, by omega⟩ (by simp (implicitDefEqProofs := false) (maxSteps := 10000000) [-List.lookup_eq_none_iff, htk, actC]) (by simp only; omega)
  · have hia : i = acts.length := by omega
    subst hia
    clear hQ hel
    have hta : acts.take acts.length = acts := List.take_length
    rw [hta]
    generalize (acts.filter idleB).map actC = fs at *
    unfold outD vwD flyE at *
    simp (implicitDefEqProofs := false) (maxSteps := 10000000) [-List.lookup_eq_none_iff, ir_reredostop_TopIdle_b0, ir_reredostop_TopIdle_r7, hes, h3, x3, f3, p3]
    clear f1 f2 f3 p1 p2 p3 hu
    have hm : n * n ≤ 16 := Nat.mul_le_mul (by omega : n ≤ 4) (by omega : n ≤ 4)
    generalize n * n = m at *
    have hv := fun (i : Nat) (h : i < L) => elem_rep [D.fz 6 [], .fz 1 [], .fz 1 (List.replicate m noMs), .fz 2 (List.replicate n eTape), .fz 4 (List.replicate n eSto), .fz 1 (List.replicate n [.fz 4 []])] h
    refine k_loop (ι := {i : Nat // i ≤ L}) (fun y => ⟨mkTm 109 0 [(13, .own 13 0), (55, .int .i64 L), (56, .int .i64 y.1)], [(13, .box [.fz 6 (List.replicate L [.fz 6 [], .fz 1 [], .fz 1 (List.replicate m noMs), .fz 2 (List.replicate n eTape), .fz 4 (List.replicate n eSto), .fz 1 (List.replicate n [.fz 4 []])]), .fz 1 (pr.1.map fun b => [.bool b]), .int .i64 pr.2, .fz 4 []])]⟩)
      (fun y => L - y.1) [] ⟨0, by omega⟩ (by simp (implicitDefEqProofs := false) (maxSteps := 10000000) [hlm]) ?_
    rintro ⟨i, hi⟩ Q hQ
    simp only at hQ
    by_cases h : i < L
    · have hil : (i : Int) < L := by omega
      have hin : inR .i64 ((i : Int) + 1) := by simp only [inR]; omega
      have hv := hv i h
      simp (implicitDefEqProofs := false) (maxSteps := 10000000) [-List.lookup_eq_none_iff, ir_reredostop_TopIdle_b5, hil, h, hv]
      refine ⟨by simp only [inR]; omega, ?_⟩
      refine k_loop (ι := {j : Nat // j ≤ n}) (fun y => ⟨mkTm 109 0 [(13, .own 13 0), (16, .own 16 0), (55, .int .i64 L), (56, .int .i64 i), (74, .int .i64 n), (75, .int .i64 y.1)], [(13, .box [.fz 6 (List.replicate L [.fz 6 [], .fz 1 [], .fz 1 (List.replicate m noMs), .fz 2 (List.replicate n eTape), .fz 4 (List.replicate n eSto), .fz 1 (List.replicate n [.fz 4 []])]), .fz 1 (pr.1.map fun b => [.bool b]), .int .i64 pr.2, .fz 4 []]), (16, .box [.fz 6 [], .fz 1 [], .fz 1 (List.replicate m noMs), .fz 2 (List.replicate n eTape), .fz 4 (List.replicate n eSto), .fz 1 (List.replicate n [.fz 4 []])])]⟩)
        (fun y => n - y.1) [] ⟨0, by omega⟩ (by simp (implicitDefEqProofs := false) (maxSteps := 10000000)) ?_
      rintro ⟨j, hj⟩ Q2 hQ2
      simp only at hQ2
      by_cases h' : j < n
      · have hjl : (j : Int) < n := by omega
        have hjn : inR .i64 ((j : Int) + 1) := by simp only [inR]; omega
        have ht := elem_rep eTape h'
        have hs := elem_rep eSto h'
        unfold eTape at *
        unfold eSto at *
        simp (implicitDefEqProofs := false) (maxSteps := 10000000) [-List.lookup_eq_none_iff, ir_reredostop_TopIdle_b1, hjl, h', ht, hs, hjn, h4, spC_hx, spC_F, spC_pre]
        exact hQ2 _ [] ⟨j + 1, by omega⟩ (by simp (implicitDefEqProofs := false) (maxSteps := 10000000)) (by simp only; omega)
      · have hjn : j = n := by omega
        subst hjn
        clear hQ2
        obtain ⟨B, hB⟩ : ∃ B, ir_reredostop_TopIdle_b1 = .seq (.reg [zp 76 .lss 75 74]) (.seq (.cond (.t 76) .skip (.exit 4)) B) := ⟨_, rfl⟩
        simp (implicitDefEqProofs := false) (maxSteps := 10000000) [-List.lookup_eq_none_iff, hB, ir_reredostop_TopIdle_r3]
        refine k_loop (ι := {k : Nat // k ≤ m}) (fun y => ⟨mkTm 109 0 [(13, .own 13 0), (55, .int .i64 L), (56, .int .i64 i), (98, .fz 1 (List.replicate m noMs)), (99, .int .i64 m), (100, .int .i64 y.1)], [(13, .box [.fz 6 (List.replicate L [.fz 6 [], .fz 1 [], .fz 1 (List.replicate m noMs), .fz 2 (List.replicate j eTape), .fz 4 (List.replicate j eSto), .fz 1 (List.replicate j [.fz 4 []])]), .fz 1 (pr.1.map fun b => [.bool b]), .int .i64 pr.2, .fz 4 []])]⟩)
          (fun y => m - y.1) [] ⟨0, by omega⟩ (by simp (implicitDefEqProofs := false) (maxSteps := 10000000)) ?_
        rintro ⟨k, hk⟩ Q3 hQ3
        simp only at hQ3
        by_cases h'' : k < m
        · have hkl : (k : Int) < m := by omega
          have hkn : inR .i64 ((k : Int) + 1) := by simp only [inR]; omega
          have hf := elem_rep noMs h''
          unfold noMs at *
          simp (implicitDefEqProofs := false) (maxSteps := 10000000) [-List.lookup_eq_none_iff, ir_reredostop_TopIdle_b2, hkl, h'', hf, hkn]
          exact hQ3 _ [] ⟨k + 1, by omega⟩ (by simp (implicitDefEqProofs := false) (maxSteps := 10000000)) (by simp only; omega)
        · have hkm : k = m := by omega
          subst hkm
          clear hQ3
          obtain ⟨B, hB⟩ : ∃ B, ir_reredostop_TopIdle_b2 = .seq (.reg [zp 101 .lss 100 99]) (.seq (.cond (.t 101) .skip (.exit 6)) B) := ⟨_, rfl⟩
          simp (implicitDefEqProofs := false) (maxSteps := 10000000) [-List.lookup_eq_none_iff, hB, ir_reredostop_TopIdle_r4, hin]
          exact hQ _ [] ⟨i + 1, by omega⟩ (by simp (implicitDefEqProofs := false) (maxSteps := 10000000)) (by simp only; omega)
    · have hiL : i = L := by omega
      subst hiL
      clear hQ
      obtain ⟨B, hB⟩ : ∃ B, ir_reredostop_TopIdle_b5 = .seq (.reg [zp 57 .lss 56 55]) (.seq (.cond (.t 57) .skip (.exit 2)) B) := ⟨_, rfl⟩
      simp (implicitDefEqProofs := false) (maxSteps := 10000000) [-List.lookup_eq_none_iff, hB, ir_reredostop_TopIdle_r6]
end
end Go.Proofs.YtgioabhamihfmaaGreatDoor
