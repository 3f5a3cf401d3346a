/-
  What a command that changes nothing tells an operator: console.Show on data. Conditions: those of its specification's 'pre', and that the functions that are called are what theirs say.
-/
import Derived.Test.YtghehknnaifoeaaDoorShA
import Derived.Test.YtghehknnaifoeaaDoorShC
set_option linter.unusedVariables false
set_option linter.unusedSimpArgs false
namespace Go.Proofs.YtghehknnaifoeaaDoor
open Go Go.Vcg

structure Cm where
  (kind label site n : Int) (yes : Bool)
def cmC (x : Cm) : List D := [.int .i64 x.kind, .int .i64 x.label, .int .i64 x.site, .int .i64 x.n, .bool x.yes]
def cmOf : List D → Cm
  | [.int _ a, .int _ b, .int _ c, .int _ d, .bool e] => ⟨a, b, c, d, e⟩
  | _ => ⟨0, 0, 0, 0, false⟩
def nsC (ns : List Nt) : List D := [.fz 4 (ns.map ntC)]
def nsOf : List D → List Nt
  | [.fz _ es] => es.map ntOf
  | _ => []
theorem nss_of (l : List (List Nt)) : (l.map nsC).map nsOf = l := by
  rw [List.map_map]
  refine List.map_id'' (fun ns => ?_) l
  simp only [Function.comp, nsC, nsOf, nts_of]
theorem stos_of (l : List Sto) : (l.map stoC).map (fun e => stoOf (.agg e)) = l := by
  rw [List.map_map]
  exact List.map_id'' (fun s => stoOf_stoD s) l
noncomputable def partS (ls : List (Int × Int)) (l : Nat) (kind : Int) (ss : List Sto) (nn : List (List Nt)) (k : Nat) : List UInt8 :=
  if (ls.getD k (0, 0)).1 ≤ (ls.getD l (0, 0)).1 then (if kind = 1 then listS k (ss.getD k s0) (ss.getD k s0).doubts else auditS k (nn.getD k [])) else []
noncomputable def partsS (ls : List (Int × Int)) (l : Nat) (kind : Int) (ss : List Sto) (nn : List (List Nt)) (n : Nat) : List UInt8 := (List.range n).flatMap (partS ls l kind ss nn)
noncomputable def statS (ls : List (Int × Int)) (l : Nat) (ss : List Sto) (x : Cm) : Bool :=
  decide (0 ≤ x.label) && (decide (x.label < ls.length) && (decide ((ls.getD x.label.toNat (0, 0)).1 ≤ (ls.getD l (0, 0)).1) && prepB (ss.getD x.label.toNat s0) (x.site, x.n)))
def prepW : List UInt8 := [112, 114, 101, 112, 97, 114, 101, 100, 10]
def unkW : List UInt8 := [117, 110, 107, 110, 111, 119, 110, 10]
noncomputable def showT (ls : List (Int × Int)) (l : Nat) (ss : List Sto) (nn : List (List Nt)) (x : Cm) : List UInt8 × Int :=
  if x.kind = 1 ∨ x.kind = 4 then (partsS ls l x.kind ss nn ls.length, 0) else if x.kind = 2 then (if statS ls l ss x = true then prepW else unkW, 0) else ([], 3)
/-- A store that may be shown; notes that may be. -/
def okSh (s : Sto) : Prop := OkS s ∧ fewS' s
def okNs (ns : List Nt) : Prop := ns.length ≤ 1000 ∧ ∀ x ∈ ns, okTx x.site x.n = true
def plainL (ls : List (Int × Int)) : Prop := ∀ p ∈ ls, p.2 = 0
noncomputable def sp_CShow : Sp := {
  pre := fun ds => ∃ (S : Int) (ls : List (Int × Int)) (P : Int) (l : Nat) (ss : List Sto) (nn : List (List Nt)) (x : Cm), ds = [cfgD S ls P, .int .i64 l, .fz 4 (ss.map stoC), .fz 1 (nn.map nsC), .agg (cmC x)] ∧ check S ls P = 0 ∧ ls.length ≤ 6 ∧ l < ls.length ∧ ss.length = ls.length ∧ nn.length = ls.length ∧ (∀ s ∈ ss, okSh s) ∧ (∀ ns ∈ nn, okNs ns) ∧ plainL ls ∧ (x.kind = 2 → 0 ≤ x.label ∧ x.label < ls.length)
  F := fun | [c, .int _ l, .fz _ ss, .fz _ nn, .agg x] => .tup [.str (showT (cfgOf c).2.1 l.toNat (ss.map fun e => stoOf (.agg e)) (nn.map nsOf) (cmOf x)).1, .int .i64 (showT (cfgOf c).2.1 l.toNat (ss.map fun e => stoOf (.agg e)) (nn.map nsOf) (cmOf x)).2] | _ => .any }
theorem cshow_F (S : Int) (ls : List (Int × Int)) (P : Int) (l : Nat) (ss : List Sto) (nn : List (List Nt)) (x : Cm) : sp_CShow.F [cfgD S ls P, .int .i64 l, .fz 4 (ss.map stoC), .fz 1 (nn.map nsC), .agg (cmC x)] = .tup [.str (showT ls l ss nn x).1, .int .i64 (showT ls l ss nn x).2] := by
  have e : cmOf (cmC x) = x := rfl
  simp only [sp_CShow, cfgOf_cfgD, stos_of, nss_of, e, Int.toNat_natCast]
theorem cshow_pre {S : Int} {ls : List (Int × Int)} {P : Int} {l : Nat} {ss : List Sto} {nn : List (List Nt)} {x : Cm} (h1 : check S ls P = 0) (h2 : ls.length ≤ 6) (h3 : l < ls.length) (h4 : ss.length = ls.length) (h5 : nn.length = ls.length) (h6 : ∀ s ∈ ss, okSh s) (h7 : ∀ ns ∈ nn, okNs ns) (h8 : plainL ls) (h9 : x.kind = 2 → 0 ≤ x.label ∧ x.label < ls.length) :
    sp_CShow.pre [cfgD S ls P, .int .i64 l, .fz 4 (ss.map stoC), .fz 1 (nn.map nsC), .agg (cmC x)] = True := by
  simp only [sp_CShow, eq_iff_iff, iff_true]; exact ⟨S, ls, P, l, ss, nn, x, rfl, h1, h2, h3, h4, h5, h6, h7, h8, h9⟩
theorem okTx_N {a b : Int} (h : okTx a b = true) : inN a ∧ inN b := by
  simp only [okTx, Bool.and_eq_true, decide_eq_true_eq] at h
  unfold inN; omega
theorem okD_of {s : Sto} (h : OkS s) : ∀ d ∈ s.doubts, okD d := by
  intro d hd
  obtain ⟨h1, h2, h3, _⟩ := okDb_iff.1 (h.doubts d hd)
  obtain ⟨a, b⟩ := okTx_N h1
  exact ⟨a, b, by unfold inN; omega⟩
theorem part_len {ls : List (Int × Int)} {l : Nat} {kind : Int} {ss : List Sto} {nn : List (List Nt)} (h6 : ∀ s ∈ ss, okSh s) (h7 : ∀ ns ∈ nn, okNs ns) {k : Nat} (hk : k < 10) (h1 : k < ss.length) (h2 : k < nn.length) : (partS ls l kind ss nn k).length ≤ 500000 := by
  have hN : inN (k : Int) := by unfold inN; omega
  have e1 : ss.getD k s0 = ss[k] := by simp [List.getD, h1]
  have e2 : nn.getD k [] = nn[k] := by simp [List.getD, h2]
  have hs := h6 _ (List.getElem_mem h1)
  have hn := h7 _ (List.getElem_mem h2)
  unfold partS
  rw [e1, e2]
  split
  · split
    · have := list_len ss[k] hN (okD_of hs.1)
      have := hs.2.2.2.1
      omega
    · have := audit_len hN fun x hx => okTx_N (hn.2 x hx)
      have := hn.1
      omega
  · simp
theorem parts_succ (ls : List (Int × Int)) (l : Nat) (kind : Int) (ss : List Sto) (nn : List (List Nt)) (n : Nat) : partsS ls l kind ss nn (n + 1) = partsS ls l kind ss nn n ++ partS ls l kind ss nn n := by
  simp [partsS, List.range_succ]
theorem parts_len {ls : List (Int × Int)} {l : Nat} {kind : Int} {ss : List Sto} {nn : List (List Nt)} (h6 : ∀ s ∈ ss, okSh s) (h7 : ∀ ns ∈ nn, okNs ns) (h1 : ss.length ≤ 6) (h2 : nn.length = ss.length) : ∀ {n : Nat}, n ≤ ss.length → (partsS ls l kind ss nn n).length ≤ 500000 * n
  | 0, _ => by simp [partsS]
  | n + 1, h => by
    have a := part_len (ls := ls) (l := l) (kind := kind) h6 h7 (k := n) (by omega) (by omega) (by omega)
    have b := parts_len (ls := ls) (l := l) (kind := kind) h6 h7 h1 h2 (n := n) (by omega)
    rw [parts_succ, List.length_append]
    omega
theorem part_at {ls : List (Int × Int)} {l : Nat} {kind : Int} {ss : List Sto} {nn : List (List Nt)} {j : Nat} (hl : l < ls.length) (hj : j < ls.length) (h1 : j < ss.length) (h2 : j < nn.length) : partS ls l kind ss nn j = if ls[j].1 ≤ ls[l].1 then (if kind = 1 then listS j ss[j] ss[j].doubts else auditS j nn[j]) else [] := by
  have e1 : ls.getD j (0, 0) = ls[j] := by simp [List.getD, hj]
  have e2 : ls.getD l (0, 0) = ls[l] := by simp [List.getD, hl]
  have e3 : ss.getD j s0 = ss[j] := by simp [List.getD, h1]
  have e4 : nn.getD j [] = nn[j] := by simp [List.getD, h2]
  rw [partS, e1, e2, e3, e4]
theorem stat_at {ls : List (Int × Int)} {l : Nat} {ss : List Sto} {x : Cm} {j : Nat} (hl : l < ls.length) (hj : j < ls.length) (h1 : j < ss.length) (hx : x.label = j) : statS ls l ss x = (decide (ls[j].1 ≤ ls[l].1) && prepB ss[j] (x.site, x.n)) := by
  have e1 : ls.getD j (0, 0) = ls[j] := by simp [List.getD, hj]
  have e2 : ls.getD l (0, 0) = ls[l] := by simp [List.getD, hl]
  have e3 : ss.getD j s0 = ss[j] := by simp [List.getD, h1]
  have e5 : ((j : Int)).toNat = j := by omega
  have e6 : decide ((0 : Int) ≤ (j : Int)) = true := by simp
  have e7 : decide ((j : Int) < (ls.length : Int)) = true := by simp; omega
  rw [statS, hx, e5, e1, e2, e3, e6, e7]
  simp

section
variable {T : Tb}
attribute [local simp] k_seq k_block k_skip k_reg k_alt k_cond k_exit k_ret kf_nil kf_seq_n kf_seq_e kf_seq_r kf_blk_n kf_blk_e kf_blk_r kf_lp_n kf_lp_e kf_lp_r kf_cut_n kf_cut_e kf_cut_r mkTm VCops VCalt istep act gd applyE wrapD Opd.ev get_mk set_mk set_mk0 tget16 tset16 tget_0 tset_0 tget_1 tset_1 tget_2 tset_2 tget_3 tset_3 tget_4 tset_4 tget_5 tset_5 tget_6 tset_6 tget_7 tset_7 tget_8 tset_8 tget_9 tset_9 tget_10 tset_10 tget_11 tset_11 tget_12 tset_12 tget_13 tset_13 tget_14 tset_14 tget_15 tset_15 D.un D.gu gus IOp.opds binD fnPost getRes IRes.get oneRes D.out outL D.clos closL D.norow norowL D.lv lvL D.scal scalL D.cells D.cell D.cell' St.lk obPut obDel List.lookup cut pickD splice fillParts fillRows elem_cons newsOf D.pl D.forget forgetL Ob.forget forgetO eqCells sg leD leDL leOb apartK St.le D.keys keysL D.rows rowsL obKeys addKeys reach pos D.ren renL Ob.ren inM outM inObs outObs goneK apartN okNames_eq okNms obNms namesOK_nil namesOK_cons freeOK_nil freeOK_cons D.frz frzL Ob.frz frzO St.frz forgetLs dropObs putObs hcall freeOf keeps baseN shD isShift shMax k_bad VCopsG frz_nil actx actc cnum vwCut St.frzT St.opnT St.clsT D.opn opnL Ob.opn opnO VCou VCcx St.oneS D.objI D.objK scrL D.scr St.opnS St.clsS D.cellS D.fzs fzsL k_mrk k_mrq IOper.gh
set_option maxRecDepth 100000 in
set_option maxHeartbeats 16000000 in
theorem v_CShow (h1 : T.sp n_label_Check = some sp_Check) (h2 : T.sp n_store_Check = some sp_SCheck) (h3 : T.sp n_store_Writes = some sp_Writes) (h4 : T.sp n_label_Above = some sp_Above2) (h5 : T.sp n_console_list = some (sp_list 62 5)) (h6 : T.sp n_console_audit = some (sp_audit 62 5)) (h7 : T.sp n_console_prepared = some sp_prepared)
    (h8 : T.sp n_strings_Builder_WriteString = some (sp_WriteString 62 5)) (h9 : T.sp n_strings_Builder_String = some (sp_BString 62 5)) : Verified T ir_console_Show sp_CShow := by
  refine Verified.mk ?_
  rintro ds ⟨S, ls, P, l, ss, nn, x, rfl, hck, hl6, hl, hss, hnn, hso, hno, hpl, hlab⟩
  rw [cshow_F]
  have x1 : sp_Check.hx = none := rfl
  have x2 : sp_SCheck.hx = none := rfl
  have x3 : sp_Writes.hx = none := rfl
  have x4 : sp_Above2.hx = none := rfl
  have x5 : (sp_list 62 5).hx = some (hs_list 62 5) := rfl
  have x6 : (sp_audit 62 5).hx = some (hs_audit 62 5) := rfl
  have x7 : sp_prepared.hx = none := rfl
  have x8 : (sp_WriteString 62 5).hx = some (hs_ws 62 5) := rfl
  have x9 : (sp_BString 62 5).hx = some (hs_bs 62 5) := rfl
  have f1 : sp_Check.F [cfgD S ls P] = .int .i64 0 := by simp only [sp_Check, cfgOf_cfgD, hck]
  have p1 : sp_Check.pre [cfgD S ls P] = True := by
    simp only [sp_Check, eq_iff_iff, iff_true]; exact ⟨_, rfl, by simp [isCfg, cfgD, isLb_lbc]⟩
  have hparts := fun n (h : n ≤ ss.length) => parts_len (ls := ls) (l := l) (kind := x.kind) hso hno (by omega) (by omega) (n := n) h
  have es := fun j (h : j < ss.length) => elem_map stoC ss j h
  have en := fun j (h : j < nn.length) => elem_map nsC nn j h
  have el := fun j (h : j < ls.length) => elem_map lbc ls j h
  have e1 : (ss.map stoC).length = ss.length := List.length_map ..
  have e2 : (nn.map nsC).length = nn.length := List.length_map ..
  have e3 : (ls.map lbc).length = ls.length := List.length_map ..
  generalize ss.map stoC = se at *
  generalize nn.map nsC = ne at *
  have c1 : (se.length : Int) = ls.length := by omega
  have c2 : (ne.length : Int) = ls.length := by omega
  have c3 : ((ls.map lbc).length : Int) = ls.length := by omega
  have hll : (l : Int) < ls.length := by omega
  have hll' : ¬ (ls.length : Int) ≤ l := by omega
  have hl0 : ¬ (l : Int) < 0 := by omega
  generalize hcs : ls.map lbc = cs at *
  simp only [cfgD, hcs] at f1 p1 ⊢
  simp only [cmC]
  simp (implicitDefEqProofs := false) (maxSteps := 10000000) [ir_console_Show, h1, x1, f1, p1, c1, c2, c3, hll, hll', hl0]
  refine k_loop (ι := {j : Nat // j ≤ ls.length}) (fun z => ⟨mkTm 165 0 [(1, .int .i64 l), (2, .fz 4 se), (3, .fz 1 ne), (5, .own 5 0), (9, .own 9 0), (53, .fz 4 se), (54, .int .i64 ls.length), (55, .int .i64 z.1)], [(5, .box [.int .i64 S, .fz 2 cs, .int .i64 P]), (9, .box [.int .i64 x.kind, .int .i64 x.label, .int .i64 x.site, .int .i64 x.n, .bool x.yes])]⟩)
    (fun z => ls.length - z.1) [] ⟨0, by omega⟩ (by simp (implicitDefEqProofs := false) (maxSteps := 10000000)) ?_
  rintro ⟨j, hj⟩ Q hQ
  simp only at hQ
  by_cases h : j < ls.length
  · have hjl : (j : Int) < ls.length := by omega
    have hjs : j < se.length := by omega
    have he := es j (by omega)
    have hs := hso _ (List.getElem_mem (show j < ss.length by omega))
    generalize ss[j]'(by omega) = s at he hs
    have f2 := chk_F' hs.1
    have p2 := chk_pre (fewS'_fewS hs.2)
    simp only [stoC] at he f2 p2
    simp (implicitDefEqProofs := false) (maxSteps := 10000000) [ir_console_Show_b0, hjl, h, hjs, he, h2, x2, f2, p2]
    exact ⟨by simp only [inR]; omega, hQ _ [] ⟨j + 1, by omega⟩ (by simp (implicitDefEqProofs := false) (maxSteps := 10000000)) (by simp only; omega)⟩
  have hjn : j = ls.length := by omega
  subst hjn
  simp (implicitDefEqProofs := false) (maxSteps := 10000000) [ir_console_Show_b0, ir_console_Show_r7, c2]
  clear hQ
  refine k_loop (ι := {j : Nat // j ≤ ls.length}) (fun z => ⟨mkTm 165 0 [(1, .int .i64 l), (2, .fz 4 se), (3, .fz 1 ne), (5, .own 5 0), (9, .own 9 0), (65, .fz 1 ne), (66, .int .i64 ls.length), (67, .int .i64 z.1)], [(5, .box [.int .i64 S, .fz 2 cs, .int .i64 P]), (9, .box [.int .i64 x.kind, .int .i64 x.label, .int .i64 x.site, .int .i64 x.n, .bool x.yes])]⟩)
    (fun z => ls.length - z.1) [] ⟨0, by omega⟩ (by simp (implicitDefEqProofs := false) (maxSteps := 10000000)) ?_
  rintro ⟨j, hj⟩ Q hQ
  simp only at hQ
  by_cases h : j < ls.length
  · have hjl : (j : Int) < ls.length := by omega
    have hjs : j < ne.length := by omega
    have he := en j (by omega)
    have hs := hno _ (List.getElem_mem (show j < nn.length by omega))
    generalize nn[j]'(by omega) = ns at he hs
    simp only [nsC] at he
    have en2 := fun i (h : i < ns.length) => elem_map ntC ns i h
    have e4 : (ns.map ntC).length = ns.length := List.length_map ..
    generalize ns.map ntC = nse at *
    have c4 : (nse.length : Int) = ns.length := by omega
    simp (implicitDefEqProofs := false) (maxSteps := 10000000) [ir_console_Show_b3, hjl, h, hjs, he, c4]
    refine k_loop (ι := {i : Nat // i ≤ ns.length}) (fun z => ⟨mkTm 165 0 [(1, .int .i64 l), (2, .fz 4 se), (3, .fz 1 ne), (5, .own 5 0), (9, .own 9 0), (65, .fz 1 ne), (66, .int .i64 ls.length), (67, .int .i64 j), (71, .fz 4 nse), (72, .int .i64 ns.length), (73, .int .i64 z.1)], [(5, .box [.int .i64 S, .fz 2 cs, .int .i64 P]), (9, .box [.int .i64 x.kind, .int .i64 x.label, .int .i64 x.site, .int .i64 x.n, .bool x.yes])]⟩)
      (fun z => ns.length - z.1) [] ⟨0, by omega⟩ (by simp (implicitDefEqProofs := false) (maxSteps := 10000000)) ?_
    rintro ⟨i, hi⟩ Q2 hQ2
    simp only at hQ2
    by_cases h' : i < ns.length
    · have hil : (i : Int) < ns.length := by omega
      have his : i < nse.length := by omega
      have he2 := en2 i h'
      have ht := hs.2 _ (List.getElem_mem h')
      have hi1 : ns.length ≤ 1000 := hs.1
      generalize ns[i] = y at he2 ht
      obtain ⟨y1, y2, y3, y4⟩ := y
      simp only at ht
      have f3 := writes_F s0 (y1, y2)
      have p3 := writes_pre (s := s0) (by simp [fewS', s0]) (y1, y2)
      have hc : callE s0 (y1, y2) 0 = 0 := callE_ok okS_s0 ht (by omega)
      have hw : (writesS s0 (y1, y2)).2 = 0 := by rw [writesS, if_neg (by simp [hc])]
      rw [hw] at f3
      generalize (writesS s0 (y1, y2)).1 = wn at f3
      simp only [ntC] at he2
      simp only [stoC, s0, txC, List.map_nil] at f3 p3
      simp (implicitDefEqProofs := false) (maxSteps := 10000000) [ir_console_Show_b1, hil, h', his, he2, h3, x3, f3, p3]
      exact ⟨by simp only [inR]; omega, hQ2 _ [] ⟨i + 1, by omega⟩ (by simp (implicitDefEqProofs := false) (maxSteps := 10000000)) (by simp only; omega)⟩
    · have hin : i = ns.length := by omega
      subst hin
      simp (implicitDefEqProofs := false) (maxSteps := 10000000) [ir_console_Show_b1, ir_console_Show_r2]
      exact ⟨by simp only [inR]; omega, hQ _ [] ⟨j + 1, by omega⟩ (by simp (implicitDefEqProofs := false) (maxSteps := 10000000)) (by simp only; omega)⟩
  have hjn : j = ls.length := by omega
  subst hjn
  clear hQ
  by_cases hk : x.kind = 1 ∨ x.kind = 4
  · have hr : showT ls l ss nn x = (partsS ls l x.kind ss nn ls.length, 0) := by rw [showT, if_pos hk]
    rw [hr]
    have el0 : elem cs l = [.int .i64 ls[l].1, .int .i64 0] := by rw [el l hl]; simp only [lbc]; rw [hpl _ (List.getElem_mem hl)]
    obtain ⟨kind, label, site, n, yes⟩ := x
    clear hr
    simp only at hk hparts hlab ⊢
    clear hlab
    rcases hk with rfl | rfl
    · simp (implicitDefEqProofs := false) (maxSteps := 10000000) [ir_console_Show_b3, ir_console_Show_r6, c3]
      refine k_loop (ι := {j : Nat // j ≤ ls.length}) (fun z => ⟨mkTm 165 0 [(1, .int .i64 l), (2, .fz 4 se), (3, .fz 1 ne), (5, .own 5 0), (9, .own 9 0), (22, .own 22 0), (95, .int .i64 ls.length), (96, .int .i64 z.1)], [(5, .box [.int .i64 S, .fz 2 cs, .int .i64 P]), (9, .box [.int .i64 1, .int .i64 label, .int .i64 site, .int .i64 n, .bool yes]), (22, .bld 62 5 (partsS ls l 1 ss nn z.1))]⟩)
        (fun z => ls.length - z.1) [] ⟨0, by omega⟩ (by simp (implicitDefEqProofs := false) (maxSteps := 10000000) [partsS]) ?_
      rintro ⟨j, hj⟩ Q hQ
      simp only at hQ
      by_cases h : j < ls.length
      · have hjl : (j : Int) < ls.length := by omega
        have hjs : j < se.length := by omega
        have hjn : j < ne.length := by omega
        have hjc : j < cs.length := by omega
        have hlc : l < cs.length := by omega
        have hjN : inN (j : Int) := by unfold inN; omega
        have hp := part_at (kind := 1) (ss := ss) (nn := nn) hl h (by omega) (by omega)
        have hpt := parts_succ ls l 1 ss nn j
        rw [hp] at hpt
        have hbl := hparts j (by omega)
        have he := es j (by omega)
        have hn := en j (by omega)
        have hc : elem cs j = [.int .i64 ls[j].1, .int .i64 0] := by rw [el j h]; simp only [lbc]; rw [hpl _ (List.getElem_mem h)]
        have hs := hso _ (List.getElem_mem (show j < ss.length by omega))
        have hm := hno _ (List.getElem_mem (show j < nn.length by omega))
        clear hp
        generalize ss[j]'(by omega) = s at he hs hpt
        generalize nn[j]'(by omega) = ns at hn hm hpt
        generalize ls[j].1 = q at hc hpt
        generalize ls[l].1 = A at el0 hpt
        generalize partsS ls l 1 ss nn j = bs at hpt hbl ⊢
        have f4 := above2_F A q
        have p4 := above2_pre A q
        have f5 := list_F 62 5 bs j s
        have p5 := list_pre 62 5 (bs := bs) hjN hs.2 (okD_of hs.1) (by omega)
        simp only [stoC] at he f5 p5
        by_cases hq : q ≤ A
        · rw [if_pos hq] at hpt
          simp (implicitDefEqProofs := false) (maxSteps := 10000000) [ir_console_Show_b4, hjl, h, hjs, hjn, hjc, hlc, hl, he, hn, hc, el0, h4, x4, f4, p4, hq, h5, x5, f5, p5]
          exact ⟨by simp only [inR]; omega, hQ _ [] ⟨j + 1, by omega⟩ (by simp (implicitDefEqProofs := false) (maxSteps := 10000000) [hpt]) (by simp only; omega)⟩
        · rw [if_neg hq] at hpt
          simp (implicitDefEqProofs := false) (maxSteps := 10000000) [ir_console_Show_b4, hjl, h, hjs, hjn, hjc, hlc, hl, he, hn, hc, el0, h4, x4, f4, p4, hq]
          exact ⟨by simp only [inR]; omega, hQ _ [] ⟨j + 1, by omega⟩ (by simp (implicitDefEqProofs := false) (maxSteps := 10000000) [hpt]) (by simp only; omega)⟩
      · have hjn : j = ls.length := by omega
        subst hjn
        simp (implicitDefEqProofs := false) (maxSteps := 10000000) [ir_console_Show_b4, ir_console_Show_r5, h9, x9, bs_pre, bs_F]
    · simp (implicitDefEqProofs := false) (maxSteps := 10000000) [ir_console_Show_b3, ir_console_Show_r6, c3]
      refine k_loop (ι := {j : Nat // j ≤ ls.length}) (fun z => ⟨mkTm 165 0 [(1, .int .i64 l), (2, .fz 4 se), (3, .fz 1 ne), (5, .own 5 0), (9, .own 9 0), (22, .own 22 0), (95, .int .i64 ls.length), (96, .int .i64 z.1)], [(5, .box [.int .i64 S, .fz 2 cs, .int .i64 P]), (9, .box [.int .i64 4, .int .i64 label, .int .i64 site, .int .i64 n, .bool yes]), (22, .bld 62 5 (partsS ls l 4 ss nn z.1))]⟩)
        (fun z => ls.length - z.1) [] ⟨0, by omega⟩ (by simp (implicitDefEqProofs := false) (maxSteps := 10000000) [partsS]) ?_
      rintro ⟨j, hj⟩ Q hQ
      simp only at hQ
      by_cases h : j < ls.length
      · have hjl : (j : Int) < ls.length := by omega
        have hjs : j < se.length := by omega
        have hjn : j < ne.length := by omega
        have hjc : j < cs.length := by omega
        have hlc : l < cs.length := by omega
        have hjN : inN (j : Int) := by unfold inN; omega
        have hp := part_at (kind := 4) (ss := ss) (nn := nn) hl h (by omega) (by omega)
        have hpt := parts_succ ls l 4 ss nn j
        rw [hp] at hpt
        have hbl := hparts j (by omega)
        have he := es j (by omega)
        have hn := en j (by omega)
        have hc : elem cs j = [.int .i64 ls[j].1, .int .i64 0] := by rw [el j h]; simp only [lbc]; rw [hpl _ (List.getElem_mem h)]
        have hs := hso _ (List.getElem_mem (show j < ss.length by omega))
        have hm := hno _ (List.getElem_mem (show j < nn.length by omega))
        clear hp
        generalize ss[j]'(by omega) = s at he hs hpt
        generalize nn[j]'(by omega) = ns at hn hm hpt
        generalize ls[j].1 = q at hc hpt
        generalize ls[l].1 = A at el0 hpt
        generalize partsS ls l 4 ss nn j = bs at hpt hbl ⊢
        have f4 := above2_F A q
        have p4 := above2_pre A q
        have f5 := audit_F 62 5 bs j ns
        have p5 := audit_pre 62 5 (bs := bs) hjN (fun x hx => okTx_N (hm.2 x hx)) hm.1 (by omega)
        simp only [nsC] at hn
        by_cases hq : q ≤ A
        · rw [if_pos hq] at hpt
          simp (implicitDefEqProofs := false) (maxSteps := 10000000) [ir_console_Show_b4, hjl, h, hjs, hjn, hjc, hlc, hl, he, hn, hc, el0, h4, x4, f4, p4, hq, h6, x6, f5, p5]
          exact ⟨by simp only [inR]; omega, hQ _ [] ⟨j + 1, by omega⟩ (by simp (implicitDefEqProofs := false) (maxSteps := 10000000) [hpt]) (by simp only; omega)⟩
        · rw [if_neg hq] at hpt
          simp (implicitDefEqProofs := false) (maxSteps := 10000000) [ir_console_Show_b4, hjl, h, hjs, hjn, hjc, hlc, hl, he, hn, hc, el0, h4, x4, f4, p4, hq]
          exact ⟨by simp only [inR]; omega, hQ _ [] ⟨j + 1, by omega⟩ (by simp (implicitDefEqProofs := false) (maxSteps := 10000000) [hpt]) (by simp only; omega)⟩
      · have hjn : j = ls.length := by omega
        subst hjn
        simp (implicitDefEqProofs := false) (maxSteps := 10000000) [ir_console_Show_b4, ir_console_Show_r5, h9, x9, bs_pre, bs_F]
  · by_cases hk2 : x.kind = 2
    · have hr : showT ls l ss nn x = (if statS ls l ss x = true then prepW else unkW, 0) := by rw [showT, if_neg hk, if_pos hk2]
      rw [hr]
      clear hr
      have el0 : elem cs l = [.int .i64 ls[l].1, .int .i64 0] := by rw [el l hl]; simp only [lbc]; rw [hpl _ (List.getElem_mem hl)]
      obtain ⟨kind, label, site, n, yes⟩ := x
      simp only at hk2 hparts hlab ⊢
      subst hk2
      have hlc : l < cs.length := by omega
      obtain ⟨a1', a2⟩ := hlab rfl
      have a1 : ¬ label < 0 := by omega
      · obtain ⟨k, rfl⟩ : ∃ k : Nat, label = k := ⟨label.toNat, by omega⟩
        have hkl : k < ls.length := by omega
        have hst := stat_at (ss := ss) (x := ⟨2, k, site, n, yes⟩) hl hkl (by omega) rfl
        rw [hst]
        clear hst
        have hkc : k < cs.length := by omega
        have hks : k < se.length := by omega
        have he := es k (by omega)
        have hc : elem cs k = [.int .i64 ls[k].1, .int .i64 0] := by rw [el k hkl]; simp only [lbc]; rw [hpl _ (List.getElem_mem hkl)]
        have hs := hso _ (List.getElem_mem (show k < ss.length by omega))
        generalize ss[k]'(by omega) = s at he hs ⊢
        generalize ls[k].1 = q at hc ⊢
        generalize ls[l].1 = A at el0 ⊢
        have f4 := above2_F A q
        have p4 := above2_pre A q
        have f7 := prepared_F s (site, n)
        have p7 := prepared_pre hs.2 (site, n)
        simp only [stoC, txC] at he f7 p7
        by_cases hq : q ≤ A
        · cases hp : prepB s (site, n)
          · rw [hp] at f7
            simp (implicitDefEqProofs := false) (maxSteps := 10000000) [ir_console_Show_b3, ir_console_Show_r6, ir_console_Show_r5, c3, a1, a1', a2, hkl, hkc, hlc, hl, hks, he, hc, el0, h4, x4, f4, p4, hq, h7, x7, f7, p7, h8, x8, ws_pre, ws_F, h9, x9, bs_pre, bs_F, unkW]
          · rw [hp] at f7
            simp (implicitDefEqProofs := false) (maxSteps := 10000000) [ir_console_Show_b3, ir_console_Show_r6, ir_console_Show_r5, c3, a1, a1', a2, hkl, hkc, hlc, hl, hks, he, hc, el0, h4, x4, f4, p4, hq, h7, x7, f7, p7, h8, x8, ws_pre, ws_F, h9, x9, bs_pre, bs_F, prepW]
        · simp (implicitDefEqProofs := false) (maxSteps := 10000000) [ir_console_Show_b3, ir_console_Show_r6, ir_console_Show_r5, c3, a1, a1', a2, hkl, hkc, hlc, hl, hks, he, hc, el0, h4, x4, f4, p4, hq, h7, x7, f7, p7, h8, x8, ws_pre, ws_F, h9, x9, bs_pre, bs_F, unkW]
    · have hr : showT ls l ss nn x = ([], 3) := by rw [showT, if_neg hk, if_neg hk2]
      rw [hr]
      have hk1 : x.kind ≠ 1 := fun e => hk (.inl e)
      have hk4 : x.kind ≠ 4 := fun e => hk (.inr e)
      simp (implicitDefEqProofs := false) (maxSteps := 10000000) [ir_console_Show_b3, ir_console_Show_r6, hk1, hk4, hk2]
end
end Go.Proofs.YtghehknnaifoeaaDoor
