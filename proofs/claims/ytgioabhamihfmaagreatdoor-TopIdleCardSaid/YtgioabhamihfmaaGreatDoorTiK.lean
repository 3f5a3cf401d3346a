/-
  Where nobody asks for anything: cluster.Run. Conditions: those of each specification's 'pre', and that the functions that are called are what theirs say.
-/
import Derived.Test.YtgioabhamihfmaaGreatDoorTiN
import Derived.Test.YtgioabhamihfmaaGreatDoorTiJ
set_option linter.unusedVariables false
set_option linter.unusedSimpArgs false
namespace Go.Proofs.YtgioabhamihfmaaGreatDoor
open Go Go.Vcg

/-- Which sites are up, and how many ticks there were. -/
def stepT (p : List Bool × Int) (a : Ac) : List Bool × Int :=
  if a.kind = 5 then (p.1, p.2 + 1) else if a.kind = 6 then (p.1.set a.site.toNat false, p.2) else if a.kind = 7 then (p.1.set a.site.toNat true, p.2) else p
def runI (n : Nat) (av : List Ac) : List Bool × Int := av.foldl stepT (List.replicate n true, 0)
theorem stepT_len (p : List Bool × Int) (a : Ac) : (stepT p a).1.length = p.1.length := by
  unfold stepT; split <;> (try split) <;> (try split) <;> simp
theorem stepT_t (p : List Bool × Int) (a : Ac) : p.2 ≤ (stepT p a).2 ∧ (stepT p a).2 ≤ p.2 + 1 := by
  unfold stepT; split <;> (try split) <;> (try split) <;> (try simp only) <;> omega
theorem runI_take {n : Nat} {av : List Ac} {i : Nat} (h : i < av.length) : runI n (av.take (i + 1)) = stepT (runI n (av.take i)) av[i] := by
  unfold runI
  rw [List.take_succ_eq_append_getElem h, List.foldl_append]
  rfl
theorem runI_ok (n : Nat) (av : List Ac) : (runI n av).1.length = n ∧ 0 ≤ (runI n av).2 ∧ (runI n av).2 ≤ av.length := by
  have h : ∀ (l : List Ac) (p : List Bool × Int), p.1.length = n → 0 ≤ p.2 → (l.foldl stepT p).1.length = n ∧ 0 ≤ (l.foldl stepT p).2 ∧ (l.foldl stepT p).2 ≤ p.2 + l.length := by
    intro l
    induction l with
    | nil => intro p h1 h2; simp [h1, h2]
    | cons a l ih =>
      intro p h1 h2
      have h3 := stepT_t p a
      obtain ⟨q1, q2, q3⟩ := ih (stepT p a) (by rw [stepT_len, h1]) (by omega)
      simp only [List.foldl_cons, List.length_cons]
      refine ⟨q1, q2, by omega⟩
  have := h av (List.replicate n true, 0) (by simp) (by simp)
  simpa [runI] using this
theorem act_step (a : Ac) (p : List Bool × Int) (hs : 0 ≤ a.site) (hk : 2 ≤ a.kind ∧ a.kind ≤ 7) (k0 k3 : Nat) (c1 c2 c3 c4 c5 c6 c8 : D) (w s : Nat × Ob) :
    actOb a.kind a.site [(k0, .box [c1, c2, c3, c4, c5, c6, .int .i64 p.2, c8]), w, s, (k3, .row 1 (p.1.map fun b => [.bool b]))] = [(k0, .box [c1, c2, c3, c4, c5, c6, .int .i64 (stepT p a).2, c8]), w, s, (k3, .row 1 ((stepT p a).1.map fun b => [.bool b]))] := by
  unfold actOb stepT
  split
  · rfl
  · split
    · simp only [upOb, List.map_set]
    · split
      · simp only [upOb, List.map_set]
      · rfl
/-- Worlds, i of which were seen. -/
def wsL (n L i : Nat) : List (List D) := List.replicate i [.sbx (wV n)] ++ List.replicate (L - i) [.sbx (wC n)]
theorem wsL_len {n L i : Nat} (h : i ≤ L) : (wsL n L i).length = L := by simp [wsL]; omega
theorem wsL_0 (n L : Nat) : wsL n L 0 = List.replicate L [.sbx (wC n)] := by simp [wsL]
theorem wsL_elem {n L i : Nat} (h : i < L) : elem (wsL n L i) i = [.sbx (wC n)] := by
  simp only [elem, wsL, List.getD]
  rw [List.getElem?_append_right (by simp)]
  simp [show 0 < L - i by omega]
theorem wsL_set {n L i : Nat} (h : i < L) : (wsL n L i).set i [.sbx (wV n)] = wsL n L (i + 1) := by
  obtain ⟨k, hk⟩ : ∃ k, L - i = k + 1 := ⟨L - i - 1, by omega⟩
  have hk' : L - (i + 1) = k := by omega
  simp only [wsL, hk, hk']
  rw [List.set_append_right _ _ (by simp), List.replicate_succ]
  simp [List.replicate_succ', List.append_assoc]
def sp_ClBool : Sp := { pre := fun ds => ∃ us : List Bool, ds = [.fz 1 (us.map fun b => [.bool b])] ∧ us ≠ [] ∧ us.length ≤ 4, F := fun | [x] => x | _ => .any }
theorem clb_F (x : D) : sp_ClBool.F [x] = x := rfl
theorem clb_pre {us : List Bool} (h : us ≠ []) (hl : us.length ≤ 4) : sp_ClBool.pre [.fz 1 (us.map fun b => [.bool b])] = True := by
  simp only [sp_ClBool, eq_iff_iff, iff_true]; exact ⟨us, rfl, h, hl⟩
def outD (n L : Nat) (p : List Bool × Int) : D := .agg [.fz 6 (List.replicate L (vwD n).cells), .fz 1 (p.1.map fun b => [.bool b]), .int .i64 p.2, .fz 4 []]
def idle (S : Int) (L : Nat) (a : Ac) : Prop := actE S L a = 0 ∧ 2 ≤ a.kind ∧ a.kind ≤ 7
def sp_RunI : Sp := {
  pre := fun ds => ∃ (S : Int) (ls : List (Int × Int)) (P : Int) (av : List Ac), ds = [cfgD S ls P, .fz 12 (av.map actC)] ∧ okC S ls P ∧ av.length ≤ 2000 ∧ ∀ a ∈ av, idle S ls.length a
  F := fun | [c, .fz _ es] => .tup [outD (cfgOf c).1.toNat (cfgOf c).2.1.length (runI (cfgOf c).1.toNat (es.map actL)), .int .i64 0, .int .i64 0] | _ => .any }
theorem actL_map (av : List Ac) : (av.map actC).map actL = av := by
  rw [List.map_map]
  have : actL ∘ actC = id := funext actL_actC
  rw [this, List.map_id]
theorem runI_F (S : Int) (ls : List (Int × Int)) (P : Int) (av : List Ac) : sp_RunI.F [cfgD S ls P, .fz 12 (av.map actC)] = .tup [outD S.toNat ls.length (runI S.toNat av), .int .i64 0, .int .i64 0] := by
  simp only [sp_RunI, cfgOf_cfgD, actL_map]
theorem runI_pre {S : Int} {ls : List (Int × Int)} {P : Int} {av : List Ac} (hc : okC S ls P) (hl : av.length ≤ 2000) (h : ∀ a ∈ av, idle S ls.length a) : sp_RunI.pre [cfgD S ls P, .fz 12 (av.map actC)] = True := by
  simp only [sp_RunI, eq_iff_iff, iff_true]; exact ⟨S, ls, P, av, rfl, hc, hl, h⟩
theorem cfg_is (S : Int) (ls : List (Int × Int)) (P : Int) : isCfg (cfgD S ls P) = true := by simp [isCfg, cfgD, isLb_lbc]
theorem numB_of {S : Int} {L : Nat} {a : Ac} (h : actE S L a = 0) : numB S L a := by
  unfold actE at h
  split at h
  · cases h
  · split at h
    · cases h
    · rename_i h2; exact Decidable.not_not.1 h2
theorem okA_of {n L : Nat} {a : Ac} (h : actE n L a = 0) : okA n L a.site a.to a.label a.pick a.keep := by
  obtain ⟨h1, h2, h3, h4, h5, h6, h7, _, h8, _, h9⟩ := numB_of h
  refine ⟨⟨h1, h2⟩, ⟨h3, h4⟩, ⟨h5, h6⟩, h7, h8, fun k hk => ?_⟩
  have := List.all_eq_true.1 h9 k hk
  simpa [okKeep] using this

section
variable {T : Tb}
attribute [local simp] isMl VCopsM mstep mchk lchk kchk IOp.isB k_seq k_block k_skip k_reg k_alt k_cond k_exit k_ret kf_nil kf_seq_n kf_seq_e kf_seq_r kf_blk_n kf_blk_e kf_blk_r kf_lp_n kf_lp_e kf_lp_r kf_cut_n kf_cut_e kf_cut_r mkTm VCops VCalt istep act gd applyE wrapD Opd.ev get_mk set_mk set_mk0 tget16 tset16 tget_0 tset_0 tget_1 tset_1 tget_2 tset_2 tget_3 tset_3 tget_4 tset_4 tget_5 tset_5 tget_6 tset_6 tget_7 tset_7 tget_8 tset_8 tget_9 tset_9 tget_10 tset_10 tget_11 tset_11 tget_12 tset_12 tget_13 tset_13 tget_14 tset_14 tget_15 tset_15 D.un D.gu gus IOp.opds binD fnPost getRes IRes.get oneRes D.out outL D.clos closL D.norow norowL D.lv lvL D.scal scalL D.cells D.cell D.cell' St.lk obPut obDel List.lookup cut pickD splice fillParts fillRows elem_cons newsOf D.pl D.forget forgetL Ob.forget forgetO eqCells sg leD leDL leOb apartK St.le D.keys keysL D.rows rowsL obKeys addKeys reach pos D.ren renL Ob.ren inM outM inObs outObs goneK apartN okNames_eq okNms obNms namesOK_nil namesOK_cons freeOK_nil freeOK_cons D.frz frzL Ob.frz frzO St.frz forgetLs dropObs putObs hcall freeOf keeps baseN shD isShift shMax k_bad VCopsG frz_nil actx actc cnum vwCut St.frzT St.opnT St.clsT D.opn opnL Ob.opn opnO VCou VCcx St.oneS D.objI D.objK St.objP St.objQ St.pathR St.pathI pathL scrL D.scr St.opnS St.clsS D.cellS D.fzs fzsL k_mrk k_mrq IOper.gh St.bxS D.tob tobL Ob.tob tobO zI zC zw zz zg zm zi zb zf zl za zs zn zo zd zy zu ze zk zt zc zp
set_option maxRecDepth 100000 in
theorem v_ClBool : Verified T ir_slices_Clone_bool_bool sp_ClBool := by
  refine Verified.mk ?_
  rintro ds ⟨us, rfl, hne, hl⟩
  rw [clb_F]
  obtain ⟨b, us, rfl⟩ : ∃ b r, us = b :: r := by cases us with | nil => exact absurd rfl hne | cons b r => exact ⟨b, r, rfl⟩
  simp only [List.length_cons] at hl
  simp (implicitDefEqProofs := false) (maxSteps := 10000000) [-List.lookup_eq_none_iff, ir_slices_Clone_bool_bool]
  omega
set_option maxRecDepth 100000 in
set_option maxHeartbeats 8000000 in
theorem v_RunI (h1 : T.sp n_label_Check = some sp_Check) (h2 : T.sp n_lines_Check = some sp_LCheck) (h3 : T.sp n_cluster_fresh = some sp_Fresh) (h4 : T.sp n_cluster_cluster_act = some sp_Act0) (h5 : T.sp n_slices_Clone_bool_bool = some sp_ClBool) (h6 : T.sp n_cluster_cluster_view = some sp_View0) : Verified T ir_cluster_Run sp_RunI := by
  refine Verified.mk ?_
  rintro ds ⟨S, ls, P, av, rfl, hc, hlen, hall⟩
  rw [runI_F]
  have x1 : sp_Check.hx = none := rfl
  have x2 : sp_LCheck.hx = none := rfl
  have x5 : sp_ClBool.hx = none := rfl
  have f1 := chk_F hc
  have p1 := chk_pre (S := S) (ls := ls) (P := P)
  have f2 := fun a => lchk_F (S := S) (P := P) (ls := ls) a hc.1
  have p2 := fun (a : Ac) (ha : okAc a) => lchk_pre (S := S) (P := P) (ls := ls) (a := a) (cfg_is S ls P) ha
  have p3 := pCfg1_eq hc
  obtain ⟨hL1, hL2⟩ := hc.2.2
  obtain ⟨hS1, hS2⟩ := hc.2.1
  obtain ⟨n, rfl⟩ : ∃ n : Nat, S = n := ⟨S.toNat, by omega⟩
  have hlm : (ls.map lbc).length = ls.length := by simp
  have hq : ∀ (a : Ac) (p : List Bool × Int), a ∈ av → p.1.length = n → 0 ≤ p.2 ∧ p.2 ≤ 100000 → pCl (qAct fun k => 2 ≤ k ∧ k ≤ 7) [.own 1000000000 0, actD a] (clO n (ls.map lbc) P p.2 ls.length n p.1) = True := fun a p ha hp ht =>
    pCl_eq hc hp ht ⟨a.kind, a.site, a.to, a.label, a.pick, a.keep, a.call.kind, a.call.n, a.call.label, a.call.key, a.call.value, a.line, rfl, okA_of (hall a ha).1, (hall a ha).2⟩
  have hel := fun i (h : i < av.length) => elem_map actC av i h
  have hes : (av.map actC).length = av.length := by simp
  simp only [Int.toNat_natCast]
  generalize hL : ls.length = L at *
  generalize hcs : ls.map lbc = cs at *
  simp only [cfgD, hcs] at f1 p1 f2 p2 p3 ⊢
  generalize hEs : av.map actC = es at *
  have hl' : ¬ 3000 < (av.length : Int) := by omega
  simp (implicitDefEqProofs := false) (maxSteps := 10000000) [-List.lookup_eq_none_iff, ir_cluster_Run, h1, x1, f1, p1, hes, hl']
  refine k_loop (ι := {i : Nat // i ≤ av.length}) (fun y => ⟨mkTm 118 0 [(1, .fz 12 es), (2, .own 2 0), (4, .own 4 0), (28, .fz 12 es), (29, .int .i64 av.length), (30, .int .i64 y.1)], [(2, .box [.int .i64 n, .fz 2 cs, .int .i64 P]), (4, .box [.nl 6, .nl 1, .int .i64 0, .nl 4])]⟩)
    (fun y => av.length - y.1) [] ⟨0, by omega⟩ (by simp (implicitDefEqProofs := false) (maxSteps := 10000000)) ?_
  rintro ⟨i, hi⟩ Q hQ
  simp only at hQ
  by_cases h : i < av.length
  · have hil : (i : Int) < av.length := by omega
    have he := hel i h
    have hE := (hall _ (List.getElem_mem h)).1
    have f2' := f2 av[i]
    have p2' := p2 av[i] (by have := (okA_of hE).2.2.2.2.1; simp only [okAc]; omega)
    rw [hE] at f2'
    have hin : inR .i64 ((i : Int) + 1) := by simp only [inR]; omega
    generalize av[i] = a at he f2' p2'
    clear f2 p2 hel hq
    obtain ⟨kind, site, to, label, pick, keep, ⟨c1, c2, c3, c4, c5⟩, line⟩ := a
    simp only [actC] at he f2' p2'
    simp (implicitDefEqProofs := false) (maxSteps := 10000000) [-List.lookup_eq_none_iff, ir_cluster_Run_b0, hil, hes, h, he, h2, x2, f2', p2', hin]
    exact hQ _ [] ⟨i + 1, by omega⟩ (by simp (implicitDefEqProofs := false) (maxSteps := 10000000)) (by simp only; omega)
  · have hia : i = av.length := by omega
    subst hia
    clear hQ f2 p2
    have fF := fre_F n P cs []
    simp only [hlm, clB, worldsO, storesO, upsO, Int.toNat_natCast] at fF
    simp (implicitDefEqProofs := false) (maxSteps := 10000000) [-List.lookup_eq_none_iff, ir_cluster_Run_b0, ir_cluster_Run_r7, h3, fre_hx, fF, fre_pre, p3, hes]
    have hr0 : runI n [] = (List.replicate n true, 0) := rfl
    refine k_loop (ι := {i : Nat // i ≤ av.length}) (fun y => ⟨mkTm 118 0 [(2, .own 2 0), (4, .own 4 0), (11, .own 460001 0), (46, .fz 12 es), (47, .int .i64 av.length), (48, .int .i64 y.1)], [(2, .box [.int .i64 n, .fz 2 cs, .int .i64 P]), (4, .box [.nl 6, .nl 1, .int .i64 0, .nl 4]),
      (460001, .box [.int .i64 n, .fz 2 cs, .int .i64 P, .row 460002, .row 460003, .row 460004, .int .i64 (runI n (av.take y.1)).2, .nl 1]), (460002, .rws 1 (List.replicate L [.sbx (wC n)])), (460003, .rws 1 (List.replicate n [.sub 4 (List.replicate L eSto)])), (460004, .row 1 ((runI n (av.take y.1)).1.map fun b => [.bool b]))]⟩)
      (fun y => av.length - y.1) [] ⟨0, by omega⟩ (by simp (implicitDefEqProofs := false) (maxSteps := 10000000) [hr0, List.map_replicate]) ?_
    rintro ⟨i, hi⟩ Q hQ
    simp only at hQ
    by_cases h : i < av.length
    · have hil : (i : Int) < av.length := by omega
      have he := hel i h
      have hin : inR .i64 ((i : Int) + 1) := by simp only [inR]; omega
      have htk := runI_take (n := n) h
      obtain ⟨hu, ht0, ht1⟩ := runI_ok n (av.take i)
      have hti : (av.take i).length ≤ 2000 := by simp; omega
      have hA := hall _ (List.getElem_mem h)
      have hq' := hq av[i] (runI n (av.take i)) (List.getElem_mem h) hu ⟨ht0, by omega⟩
      have hst := act_step av[i] (runI n (av.take i)) (okA_of hA.1).1.1 hA.2 1000000000 1000000003 (.int .i64 n) (.fz 2 cs) (.int .i64 P) (.row 1000000001) (.row 1000000002) (.row 1000000003) (.nl 1) (1000000001, .rws 1 (List.replicate L [.sbx (wC n)])) (1000000002, .rws 1 (List.replicate n [.sub 4 (List.replicate L eSto)]))
      simp only [clO, clB, worldsO, storesO, upsO, actD] at hq'
      generalize stepT (runI n (av.take i)) av[i] = p' at htk hst
      generalize runI n (av.take i) = p at hst hq' hu ⊢
      generalize av[i] = a at he hst hq'
      clear hel hq hall hA
      obtain ⟨kind, site, to, label, pick, keep, ⟨c1, c2, c3, c4, c5⟩, line⟩ := a
      simp only [actC] at he hq' hst
      have ap : hs_Act.pre = pCl (qAct fun k => 2 ≤ k ∧ k ≤ 7) := rfl
      generalize wC n = wc at *
      simp (implicitDefEqProofs := false) (maxSteps := 10000000) [-List.lookup_eq_none_iff, ir_cluster_Run_b1, hil, hes, h, he, hin, h4, act_hx, act_F, ap, hq', hst]
      exact hQ _ [] ⟨i + 1, by omega⟩ (by simp (implicitDefEqProofs := false) (maxSteps := 10000000) [htk]) (by simp only; omega)
    · have hia : i = av.length := by omega
      subst hia
      clear hQ
      rw [List.take_length]
      obtain ⟨B, hB⟩ : ∃ B, ir_cluster_Run_b1 = .seq (.reg [zp 49 .lss 48 47]) (.seq (.cond (.t 49) .skip (.exit 2)) B) := ⟨_, rfl⟩
      simp (implicitDefEqProofs := false) (maxSteps := 10000000) [-List.lookup_eq_none_iff, hB]
      clear hB B hel hq hall hr0
      obtain ⟨hu, _, _⟩ := runI_ok n av
      generalize runI n av = p at *
      obtain ⟨up, t⟩ := p
      simp only at hu ⊢
      have hne : up ≠ [] := fun e => by rw [e] at hu; simp at hu; omega
      have p5 := clb_pre hne (by omega)
      have f5 := clb_F (.fz 1 (up.map fun b => [.bool b]))
      have hwp := fun (i : Nat) (h : i < L) => pVw_eq (cs := cs) (us := up.map fun b => [.bool b]) (P := P) (t := t) h hL2 (by omega) (wsL_len (n := n) (by omega : i ≤ L)) (wsL_elem h)
      simp only [vOb, storesO] at hwp
      rw [← wsL_0]
      unfold outD
      simp only
      generalize up.map (fun b => [D.bool b]) = us at *
      simp (implicitDefEqProofs := false) (maxSteps := 10000000) [-List.lookup_eq_none_iff, ir_cluster_Run_r6, h5, x5, f5, p5, hlm]
      unfold vwD flyE
      refine k_loop (ι := {i : Nat // i ≤ L}) (fun y => ⟨mkTm 118 0 [(4, .own 4 0), (11, .own 460001 0), (14, .own 14 0), (68, .int .i64 L), (69, .int .i64 y.1)], [(4, .box [.nl 6, .nl 1, .int .i64 0, .nl 4]), (460001, .box [.int .i64 n, .fz 2 cs, .int .i64 P, .row 460002, .row 460003, .fz 1 us, .int .i64 t, .nl 1]), (460002, .rws 1 (wsL n L y.1)), (460003, .rws 1 (List.replicate n [.sub 4 (List.replicate L eSto)])),
        (14, .box [.row 100, .fz 1 us, .int .i64 t, .nl 4]), (100, .row 6 (List.replicate y.1 [.fz 6 [], .fz 1 [], .fz 1 (List.replicate (n * n) noMs), .fz 2 (List.replicate n eTape), .fz 4 (List.replicate n eSto), .fz 1 (List.replicate n [.fz 4 []])]))]⟩)
        (fun y => L - y.1) [(100, none)] ⟨0, by omega⟩ (by simp (implicitDefEqProofs := false) (maxSteps := 10000000)) ?_
      rintro ⟨i, hi⟩ Q hQ
      simp only at hQ
      by_cases h : i < L
      · have hil : (i : Int) < L := by omega
        have hin : inR .i64 ((i : Int) + 1) := by simp only [inR]; omega
        have hwp := hwp i h
        have hws := wsL_set (n := n) h
        generalize wsL n L i = w0 at *
        generalize hw1 : wsL n L (i + 1) = w1 at hws
        simp (implicitDefEqProofs := false) (maxSteps := 10000000) [-List.lookup_eq_none_iff, ir_cluster_Run_b2, hil, h, hin, h6, view_hx, view_F, view_pre, hwp, hws, vwD, flyE]
        refine ⟨⟨by omega, by omega⟩, ?_⟩
        exact hQ _ [(100, some 78)] ⟨i + 1, by omega⟩ (by simp (implicitDefEqProofs := false) (maxSteps := 10000000) [rep_succ, hw1]) (by simp only; omega)
      · have hia : i = L := by omega
        subst hia
        clear hQ
        obtain ⟨B, hB⟩ : ∃ B, ir_cluster_Run_b2 = .seq (.reg [zp 70 .lss 69 68]) (.seq (.cond (.t 70) .skip (.exit 4)) B) := ⟨_, rfl⟩
        simp (implicitDefEqProofs := false) (maxSteps := 10000000) [-List.lookup_eq_none_iff, hB, ir_cluster_Run_r5]
        refine k_loop (ι := Unit) (fun y => ⟨mkTm 118 0 [(4, .own 4 0), (14, .own 14 0), (85, .int .i64 0), (86, .int .i64 0)], [(4, .box [.nl 6, .nl 1, .int .i64 0, .nl 4]), (14, .box [.row 100, .fz 1 us, .int .i64 t, .nl 4]), (100, .row 6 (List.replicate i [.fz 6 [], .fz 1 [], .fz 1 (List.replicate (n * n) noMs), .fz 2 (List.replicate n eTape), .fz 4 (List.replicate n eSto), .fz 1 (List.replicate n [.fz 4 []])]))]⟩) (fun y => 0) [] () (by simp (implicitDefEqProofs := false) (maxSteps := 10000000)) ?_
        rintro _ Q hQ
        clear hQ
        obtain ⟨B2, hB2⟩ : ∃ B, ir_cluster_Run_b3 = .seq (.reg [zp 87 .lss 86 85]) (.seq (.cond (.t 87) .skip (.exit 6)) B) := ⟨_, rfl⟩
        simp (implicitDefEqProofs := false) (maxSteps := 10000000) [-List.lookup_eq_none_iff, hB2, ir_cluster_Run_r4]
end
end Go.Proofs.YtgioabhamihfmaaGreatDoor
