/-
  Who asks after what nobody knows is told that it is not committed; who is not told yet that it is, that it is: the law's function says so. Conditions: those of its specification's 'pre', and that the functions that are called are what theirs say.
-/
import Derived.Test.YtchbnpjegacobaaDoorDkD
import Derived.Test.YtchbnpjegacobaaDoorDkA
import Derived.Test.YtchbnpjegacobaaDoorIrDoubtsTold
set_option linter.unusedVariables false
set_option linter.unusedSimpArgs false
namespace Go.Proofs.YtchbnpjegacobaaDoor
open Go Go.Vcg

def sp_DoubtsTold : Sp := { pre := fun ds => ∃ (s : Int) (l : List Rw) (n frm : Int), ds = [.int .i64 s, rawsD l, .int .i64 n, .int .i64 frm] ∧ inR .i64 s ∧ okRaws l ∧ inR .i64 n ∧ inR .i64 frm, F := fun _ => .bool true }
theorem chk_doubts {S k f : Int} (hS : 1 ≤ S ∧ S ≤ 4) (hk : 1 ≤ k ∧ k ≤ 1048576) (hf : 0 ≤ f ∧ f < S) : chkM S ls2 3 ⟨9, f, 0, 0, k, 0, 0, 0, 0, 0, false, 0⟩ = 0 := by
  have hc := check_two hS
  have hr : okRange S ls2.length ⟨9, f, 0, 0, k, 0, 0, 0, 0, 0, false, 0⟩ := by
    have hl : ls2.length = 2 := rfl
    simp only [okRange, okTxn, okKey, okVal, okAsk, okCode, hl, Bool.and_eq_true, decide_eq_true_eq]
    exact ⟨hf.1, hf.2, by omega, by omega, ⟨⟨⟨by omega, by omega⟩, by omega⟩, by omega⟩, by omega, by omega, ⟨by omega, by omega⟩, ⟨by omega, by omega⟩, by omega, by omega, ⟨by omega, by omega⟩, by decide⟩
  have hg : okForm ⟨9, f, 0, 0, k, 0, 0, 0, 0, 0, false, 0⟩ := by simp [okForm]
  unfold chkM
  rw [if_neg (fun e => e hc), if_neg (by simp only; omega), if_neg (fun e => e hr), if_neg (fun e => e hg)]
theorem n_uniq {js : List Jb} (h : js.Pairwise (fun a b => a.n < b.n)) {a b : Nat} (ha : a < js.length) (hb : b < js.length) (e : js[a].n = js[b].n) : a = b := by
  have h1 := List.pairwise_iff_getElem.1 h
  rcases Nat.lt_trichotomy a b with g | g | g
  · have := h1 a b ha hb g; omega
  · exact g
  · have := h1 b a hb ha g; omega
/-- What is told. -/
theorem doubts_told {S : Int} (hS : 1 ≤ S ∧ S ≤ 4) {d : Int × List Jb} (hd : DkO (hd2 S 1 0) d) {k f : Int} (hk : 1 ≤ k ∧ k ≤ 1048576) (hf : 0 ≤ f ∧ f < S) :
    ∃ M, hearT (hd2 S 1 0) d.1 d.2 ⟨9, f, 0, 0, k, 0, 0, 0, 0, 0, false, 0⟩ = (⟨d.1, 0, 0, d.2, M, [], []⟩, 0) ∧ ((∀ j ∈ d.2, j.n ≠ k) → M = [endC 0 k f]) ∧ ∀ (t : Nat) (ht : t < d.2.length), d.2[t].n = k → M = if f ∈ d.2[t].asked then [tellC 0 k f] else [] := by
  have hb := beg2 hS (l := 1) (me := 0) (by omega) (by omega) hd
  rw [hearT_ok hb (chk_doubts hS hk hf) rfl rfl (by simp only; omega)]
  simp only [hearW, if_true, askdW]
  rcases idxOf_spec (fun x : Jb => decide (x.n = k)) d.2 with ⟨h1, h2⟩ | ⟨i, hi, h1, h2, h3⟩
  · have hp : placeJ d.2 k = -1 := h1
    refine ⟨[endC 0 k f], ?_, fun _ => rfl, fun t ht e => ?_⟩
    · rw [hp, if_pos (by decide)]; rfl
    · have := h2 t ht; simp [e] at this
  · have hp : placeJ d.2 k = i := h1
    have hn : d.2[i].n = k := by simpa using h2
    have hte := (hd.ok _ (List.getElem_mem hi)).te
    refine ⟨if f ∈ d.2[i].asked then [tellC 0 k f] else [], ?_, fun e => absurd hn (e _ (List.getElem_mem hi)), fun t ht e => ?_⟩
    · have hj : jAt (wdN d.1 d.2).js ((i : Nat) : Int).toNat = d.2[i] := jAt_eq hi
      rw [hp, if_neg (by omega)]
      simp only [hj, hn]
      by_cases hm : f ∈ d.2[i].asked
      · have hs : d.2[i].state = 3 := hte.2 (fun e => by rw [e] at hm; exact absurd hm (by simp))
        rw [if_pos ⟨hs, hm⟩, if_pos hm]; rfl
      · rw [if_neg (fun e => hm e.2), if_neg hm]; rfl
    · have := n_uniq hd.up ht hi (by rw [e, hn])
      subst this; rfl
section
variable {T : Tb}
attribute [local simp] k_seq k_block k_skip k_reg k_alt k_cond k_exit k_ret kf_nil kf_seq_n kf_seq_e kf_seq_r kf_blk_n kf_blk_e kf_blk_r kf_lp_n kf_lp_e kf_lp_r kf_cut_n kf_cut_e kf_cut_r mkTm VCops VCalt istep act gd applyE wrapD Opd.ev get_mk set_mk set_mk0 tget16 tset16 tget_0 tset_0 tget_1 tset_1 tget_2 tset_2 tget_3 tset_3 tget_4 tset_4 tget_5 tset_5 tget_6 tset_6 tget_7 tset_7 tget_8 tset_8 tget_9 tset_9 tget_10 tset_10 tget_11 tset_11 tget_12 tset_12 tget_13 tset_13 tget_14 tset_14 tget_15 tset_15 D.un D.gu gus IOp.opds binD fnPost getRes IRes.get oneRes D.out outL D.clos closL D.norow norowL D.lv lvL D.scal scalL D.cells D.cell D.cell' St.lk obPut obDel List.lookup cut pickD splice fillParts fillRows elem_cons newsOf D.pl D.forget forgetL Ob.forget forgetO eqCells sg leD leDL leOb apartK St.le D.keys keysL D.rows rowsL obKeys addKeys reach pos D.ren renL Ob.ren inM outM inObs outObs goneK apartN okNames_eq okNms obNms namesOK_nil namesOK_cons freeOK_nil freeOK_cons D.frz frzL Ob.frz frzO St.frz forgetLs dropObs putObs hcall freeOf keeps baseN shD isShift shMax k_bad VCopsG frz_nil actx actc cnum vwCut St.frzT St.opnT St.clsT D.opn opnL Ob.opn opnO VCou VCcx St.oneS D.objI D.objK scrL D.scr St.opnS St.clsS D.cellS D.fzs fzsL k_mrk k_mrq IOper.gh
set_option maxRecDepth 100000 in
set_option maxHeartbeats 16000000 in
theorem v_DoubtsTold (h1 : T.sp n_reredoskeep_two = some sp_two) (h2 : T.sp n_reredoskeep_picked = some sp_picked) (h3 : T.sp n_reredoskeep_Desk = some sp_Desk) (h4 : T.sp n_coord_Hear = some sp_Hear) (h5 : T.sp n_reredoskeep_sameDesk = some sp_sameDesk) : Verified T ir_reredoskeep_DoubtsTold sp_DoubtsTold := by
  refine Verified.mk ?_
  rintro ds ⟨s, l, n, frm, rfl, hs, hl, hn, hfr⟩
  have hF : sp_DoubtsTold.F [.int .i64 s, rawsD l, .int .i64 n, .int .i64 frm] = .bool true := rfl
  rw [hF]
  have x1 : sp_two.hx = none := rfl
  have x2 : sp_picked.hx = none := rfl
  have x3 : sp_Desk.hx = none := rfl
  have x4 : sp_Hear.hx = none := rfl
  have x5 : sp_sameDesk.hx = none := rfl
  have bS := pk_bounds s 3 (by decide)
  have f1 := two_F s
  have p1 := two_pre hs
  have hS : 1 ≤ 1 + pk s 3 ∧ 1 + pk s 3 ≤ 4 := by omega
  generalize 1 + pk s 3 = S at f1 hS
  have f2 := picked_F n 9
  have p2 := picked_pre hn (by decide : (0 : Int) < 9)
  have bN := pk_bounds n 9 (by decide)
  have f6 := picked_F frm S
  have p6 := picked_pre hfr (m := S) (by omega)
  have bF := pk_bounds frm S (by omega)
  generalize pk frm S = f at f6 bF
  have hk : 1 ≤ 1 + pk n 9 ∧ 1 + pk n 9 ≤ 1048576 := by omega
  have ik : inR .i64 (1 + pk n 9) := by simp only [inR]; omega
  have f3 := desk2_F S 1 0 l 30
  have p3 := desk2_pre hS (l := 1) (me := 0) (by omega) (by omega) hl (k := 30) (by omega)
  have hok := okHd_2 hS (l := 1) (me := 0) (by omega) (by omega)
  have hd := dkO_desk hok (l.take 30)
  have hfew := dkO_few hok hd
  generalize deskT (hd2 S 1 0) (l.take 30) = d at f3 hd hfew
  have e30 : ((30 : Nat) : Int) = 30 := rfl
  have f4 := hear2_F S 1 0 d ⟨9, f, 0, 0, 1 + pk n 9, 0, 0, 0, 0, 0, false, 0⟩
  have p4 := hear2_pre S 1 0 ⟨9, f, 0, 0, 1 + pk n 9, 0, 0, 0, 0, 0, false, 0⟩ hfew
  obtain ⟨M, hM, hA, hB⟩ := doubts_told hS hd hk bF
  rw [hM] at f4
  have f5 := sameDesk_F d d
  rw [decide_eq_true rfl] at f5
  have p5 := sameDesk_pre hfew hfew
  obtain ⟨hf1, hf2⟩ := hfew
  clear hM hd hok
  obtain ⟨dn, js⟩ := d
  simp only at hA hB hf1 hf2
  generalize hkk : 1 + pk n 9 = k at hk ik f4 p4 hA hB
  simp only [cfgD, dkD, dkC, rawsD, e30, msgC, trnC, List.map_nil] at f1 p1 f3 p3 f4 p4 f5 p5 ⊢
  simp (implicitDefEqProofs := false) (maxSteps := 10000000) [ir_reredoskeep_DoubtsTold, h1, x1, f1, p1, h2, x2, f2, p2, f6, p6, h3, x3, f3, p3, h4, x4, f4, p4, h5, x5, f5, p5, hkk, ik]
  refine k_loop (ι := {t : Nat // t ≤ js.length ∧ ∀ u (hu : u < t) (hl : u < js.length), js[u].n ≠ k}) (fun x => ⟨mkTm 132 0 [(11, .int .i64 k), (12, .int .i64 f), (13, .own 13 0), (52, .fz 6 (js.map jbC)), (53, .int .i64 js.length), (54, .int .i64 x.1)], [(13, .box [.int .i64 dn, .fz 6 (js.map jbC), .fz 12 M, .fz 8 [], .fz 6 [], .int .i64 0, .int .i64 0])]⟩)
    (fun x => js.length - x.1) [] ⟨0, by omega, fun u hu => by omega⟩ (by simp (implicitDefEqProofs := false) (maxSteps := 10000000)) ?_
  rintro ⟨t, ht, hb⟩ P hP
  rcases Nat.lt_or_ge t js.length with g | g
  · have g1 : (t : Int) < js.length := by omega
    have hel := elem_map jbC js t g
    have hBt := hB t g
    obtain ⟨_, hfa⟩ := hf2 _ (List.getElem_mem g)
    have hnx : js[t].n ≠ k → ∀ u (hu : u < t + 1) (hl : u < js.length), js[u].n ≠ k := fun e u hu hl => by
      by_cases q : u = t
      · subst q; exact e
      · exact hb u (by omega) hl
    generalize js[t] = j at hel hBt hnx hfa
    obtain ⟨a1, a2, a3, a4, a5, a6⟩ := j
    simp only [jbC] at hel hBt hnx hfa
    by_cases e : a1 = k
    · subst e
      simp (implicitDefEqProofs := false) (maxSteps := 10000000) [ir_reredoskeep_DoubtsTold_b3, g1, g, hel]
      have hM := hBt rfl
      refine k_loop (ι := {q : Nat // q ≤ a4.length}) (fun x => ⟨mkTm 132 0 [(11, .int .i64 a1), (12, .int .i64 f), (13, .own 13 0), (17, .bool (decide (f ∈ a4.take x.1))), (63, .fz 1 (a4.map ic)), (64, .int .i64 a4.length), (65, .int .i64 x.1)], [(13, .box [.int .i64 dn, .fz 6 (js.map jbC), .fz 12 M, .fz 8 [], .fz 6 [], .int .i64 0, .int .i64 0])]⟩)
        (fun x => a4.length - x.1) [] ⟨0, by omega⟩ (by simp (implicitDefEqProofs := false) (maxSteps := 10000000)) ?_
      rintro ⟨q, hq⟩ P' hP'
      rcases Nat.lt_or_ge q a4.length with r | r
      · have r1 : (q : Int) < a4.length := by omega
        have hel2 := elem_map ic a4 q r
        have hx : decide (f ∈ a4.take (q + 1)) = (decide (f ∈ a4.take q) || (a4[q] == f)) := by
          rw [← List.take_append_getElem r, Bool.eq_iff_iff]
          simp only [List.mem_append, List.mem_singleton, Bool.or_eq_true, decide_eq_true_eq, beq_iff_eq]
          exact ⟨fun h => h.imp id Eq.symm, fun h => h.imp id Eq.symm⟩
        generalize decide (f ∈ a4.take q) = B at hx ⊢
        generalize a4[q] = y at hel2 hx
        simp only [ic] at hel2
        cases B
        · simp only [Bool.false_or] at hx
          simp (implicitDefEqProofs := false) (maxSteps := 10000000) [ir_reredoskeep_DoubtsTold_b0, r1, r, hel2]
          exact ⟨by simp only [inR]; omega, hP' _ [] ⟨q + 1, by omega⟩ (by simp only [hx]; simp (implicitDefEqProofs := false) (maxSteps := 10000000)) (by simp only; omega)⟩
        · simp only [Bool.true_or] at hx
          simp (implicitDefEqProofs := false) (maxSteps := 10000000) [ir_reredoskeep_DoubtsTold_b0, r1, r, hel2]
          exact ⟨by simp only [inR]; omega, hP' _ [] ⟨q + 1, by omega⟩ (by simp only [hx]; simp (implicitDefEqProofs := false) (maxSteps := 10000000)) (by simp only; omega)⟩
      · have r1 : ¬ (q : Int) < a4.length := by omega
        obtain rfl : q = a4.length := by omega
        simp only [List.take_length]
        by_cases hm : f ∈ a4
        · rw [if_pos hm] at hM
          subst hM
          have e0 : elem [tellC 0 a1 f] 0 = tellC 0 a1 f := rfl
          simp only [tellC, msgC] at e0
          rw [decide_eq_true hm]
          simp (implicitDefEqProofs := false) (maxSteps := 10000000) [ir_reredoskeep_DoubtsTold_b0, ir_reredoskeep_DoubtsTold_r1, ir_reredoskeep_DoubtsTold_r2, r1, tellC, msgC, e0]
        · rw [if_neg hm] at hM
          subst hM
          rw [decide_eq_false hm]
          simp (implicitDefEqProofs := false) (maxSteps := 10000000) [ir_reredoskeep_DoubtsTold_b0, ir_reredoskeep_DoubtsTold_r1, ir_reredoskeep_DoubtsTold_r2, r1]
    · simp (implicitDefEqProofs := false) (maxSteps := 10000000) [ir_reredoskeep_DoubtsTold_b3, ir_reredoskeep_DoubtsTold_r1, ir_reredoskeep_DoubtsTold_r2, g1, g, hel, e]
      exact ⟨by simp only [inR]; omega, hP _ [] ⟨t + 1, by omega, hnx e⟩ (by simp (implicitDefEqProofs := false) (maxSteps := 10000000)) (by simp only; omega)⟩
  · have g1 : ¬ (t : Int) < js.length := by omega
    have hM := hA fun j hj => by
      obtain ⟨u, hu, rfl⟩ := List.getElem_of_mem hj
      exact hb u (by omega) hu
    subst hM
    have e0 : elem [endC 0 k f] 0 = endC 0 k f := rfl
    simp only [endC, msgC] at e0
    simp (implicitDefEqProofs := false) (maxSteps := 10000000) [ir_reredoskeep_DoubtsTold_b3, ir_reredoskeep_DoubtsTold_r4, g1, endC, msgC, e0]
end
end Go.Proofs.YtchbnpjegacobaaDoor
