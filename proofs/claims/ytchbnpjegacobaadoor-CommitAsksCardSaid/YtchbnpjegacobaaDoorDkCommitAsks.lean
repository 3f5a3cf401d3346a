/-
  Who has read asks again; one that says no is enough, and all must say yes: the law's function says so. Conditions: those of its specification's 'pre', and that the functions that are called are what theirs say.
-/
import Derived.Test.YtchbnpjegacobaaDoorDkI
import Derived.Test.YtchbnpjegacobaaDoorIrCommitAsks
set_option linter.unusedVariables false
set_option linter.unusedSimpArgs false
namespace Go.Proofs.YtchbnpjegacobaaDoor
open Go Go.Vcg

def sp_CommitAsks : Sp := { pre := fun ds => ∃ (s : Int) (keys : List Int) (no : Int), ds = [.int .i64 s, .fz 1 (keys.map ic), .int .i64 no] ∧ inR .i64 s ∧ ((∀ k ∈ keys, inR .i64 k) ∧ keys.length ≤ 9223372036854775807) ∧ inR .i64 no, F := fun _ => .bool true }
section
variable {T : Tb}
attribute [local simp] k_seq k_block k_skip k_reg k_alt k_cond k_exit k_ret kf_nil kf_seq_n kf_seq_e kf_seq_r kf_blk_n kf_blk_e kf_blk_r kf_lp_n kf_lp_e kf_lp_r kf_cut_n kf_cut_e kf_cut_r mkTm VCops VCalt istep act gd applyE wrapD Opd.ev get_mk set_mk set_mk0 tget16 tset16 tget_0 tset_0 tget_1 tset_1 tget_2 tset_2 tget_3 tset_3 tget_4 tset_4 tget_5 tset_5 tget_6 tset_6 tget_7 tset_7 tget_8 tset_8 tget_9 tset_9 tget_10 tset_10 tget_11 tset_11 tget_12 tset_12 tget_13 tset_13 tget_14 tset_14 tget_15 tset_15 D.un D.gu gus IOp.opds binD fnPost getRes IRes.get oneRes D.out outL D.clos closL D.norow norowL D.lv lvL D.scal scalL D.cells D.cell D.cell' St.lk obPut obDel List.lookup cut pickD splice fillParts fillRows elem_cons newsOf D.pl D.forget forgetL Ob.forget forgetO eqCells sg leD leDL leOb apartK St.le D.keys keysL D.rows rowsL obKeys addKeys reach pos D.ren renL Ob.ren inM outM inObs outObs goneK apartN okNames_eq okNms obNms namesOK_nil namesOK_cons freeOK_nil freeOK_cons D.frz frzL Ob.frz frzO St.frz forgetLs dropObs putObs hcall freeOf keeps baseN shD isShift shMax k_bad VCopsG frz_nil actx actc cnum vwCut St.frzT St.opnT St.clsT D.opn opnL Ob.opn opnO VCou VCcx St.oneS D.objI D.objK scrL D.scr St.opnS St.clsS D.cellS D.fzs fzsL k_mrk k_mrq IOper.gh
set_option maxRecDepth 100000 in
set_option maxHeartbeats 16000000 in
theorem v_CommitAsks (h1 : T.sp n_reredoskeep_two = some sp_two) (h2 : T.sp n_reredoskeep_picked = some sp_picked) (h3 : T.sp n_coord_Call = some sp_Call) (h4 : T.sp n_reredoskeep_back = some sp_back) (h5 : T.sp n_coord_Hear = some sp_Hear) : Verified T ir_reredoskeep_CommitAsks sp_CommitAsks := by
  refine Verified.mk ?_
  rintro ds ⟨s, keys, no, rfl, hs, ⟨hkr, hkl⟩, hno⟩
  have hF : sp_CommitAsks.F [.int .i64 s, .fz 1 (keys.map ic), .int .i64 no] = .bool true := rfl
  rw [hF]
  have x1 : sp_two.hx = none := rfl
  have x2 : sp_picked.hx = none := rfl
  have x3 : sp_Call.hx = none := rfl
  have x4 : sp_back.hx = none := rfl
  have x5 : sp_Hear.hx = none := rfl
  have bS := pk_bounds s 3 (by decide)
  have f1 := two_F s
  have p1 := two_pre hs
  have hS : 1 ≤ 1 + pk s 3 ∧ 1 + pk s 3 ≤ 4 := by omega
  generalize 1 + pk s 3 = S at f1 hS
  have f3 := call2_F S 1 0 (1, []) 6000 ⟨1, 0, 0, 0, 0⟩
  have p3 := call2_pre S 1 0 (d := (1, [])) 6000 ⟨1, 0, 0, 0, 0⟩ ⟨by simp, by simp⟩
  have e3 := one_begin hS (l := 1) (by omega)
  simp only at f3
  rw [e3] at f3
  have f2 := picked_F keys.length 5
  have p2 := picked_pre (n := keys.length) (m := 5) (by simp only [inR]; omega) (by decide)
  have bN := pk_bounds keys.length 5 (by decide)
  obtain ⟨N, hN⟩ : ∃ N : Nat, 1 + pk keys.length 5 = N := ⟨(1 + pk keys.length 5).toNat, by omega⟩
  have hNr : 1 ≤ N ∧ N ≤ 5 := by omega
  have iN : inR .i64 (N : Int) := by simp only [inR]; omega
  simp only [cfgD, dkD, dkC, clC, trnC, rpC, recC, List.map_nil] at f1 p1 f3 p3 ⊢
  simp (implicitDefEqProofs := false) (maxSteps := 10000000) [ir_reredoskeep_CommitAsks, h1, x1, f1, p1, h3, x3, f3, p3, h2, x2, f2, p2, hN, iN]
  refine k_loop (ι := {k : Nat // k ≤ N}) (fun x => ⟨mkTm 192 0 [(2, .int .i64 no), (7, .own 7 0), (9, .int .i64 0), (10, .own 10 0), (11, .int .i64 N), (12, .int .i64 x.1)], [(7, .box [.int .i64 S, .fz 2 (ls2.map lbc), .int .i64 3]), (10, .box [.int .i64 2, .fz 6 [jbC (oneJ (gtT 0 x.1))]])]⟩)
    (fun x => N - x.1) [] ⟨0, by omega⟩ (by simp (implicitDefEqProofs := false) (maxSteps := 10000000) [gtT]) ?_
  rintro ⟨k, hk⟩ P hP
  simp only at hP ⊢
  have hokh := okHd_2 hS (l := 1) (me := 0) (by omega) (by omega)
  have e0 : ∀ a : List D, elem [a] 0 = a := fun _ => rfl
  have hdk := gt_dk hS k (by omega)
  by_cases hlt : k < N
  · have i1 : (k : Int) < N := by omega
    obtain ⟨js, e1, e2, dk1, dk2⟩ := gt_step hS (by omega : k < 5) hdk
    have f5 := call2_F S 1 0 (2, [oneJ (gtT 0 k)]) 6000 (gtX k)
    have p5 := call2_pre S 1 0 6000 (gtX k) (dkO_few hokh hdk)
    simp only at f5
    rw [e1] at f5
    have f6 := back_F (hd2 S 1 0) (2, js) (gtM S k) ⟨0, k, 0, 0, k, 0⟩
    have p6 := back_pre (hd2 S 1 0) (gtM S k) (r := ⟨0, k, 0, 0, k, 0⟩) (dkO_few hokh dk1) ⟨by simp only [inR]; omega, by simp only [inR]; omega, by simp only [inR]; omega, by simp only [inR]; omega, by simp only [inR]; omega, by simp only [inR]; omega⟩
    rw [e2] at f6
    have hP2 : ∀ (s : St) (σ : List (Nat × Option Nat)), St.le σ s ⟨mkTm 192 0 [(2, .int .i64 no), (7, .own 7 0), (9, .int .i64 0), (10, .own 10 0), (11, .int .i64 N), (12, .int .i64 ((k + 1 : Nat) : Int))], [(7, .box [.int .i64 S, .fz 2 (ls2.map lbc), .int .i64 3]), (10, .box [.int .i64 2, .fz 6 [jbC (oneJ (gtT 0 (k + 1)))]])]⟩ → P s := fun s σ hs => hP s σ ⟨k + 1, by omega⟩ hs (by simp only; omega)
    clear hP e1 e2 dk1 dk2
    generalize oneJ (gtT 0 (k + 1)) = J2 at f6 hP2
    generalize oneJ (gtT 0 k) = J1 at f5 p5 ⊢
    simp only [gtX, gtM, hd2, cfgD, dkD, dkC, clC, msgC, rawC, trnC, List.map_cons, List.map_nil] at f5 p5 f6 p6 ⊢
    simp (implicitDefEqProofs := false) (maxSteps := 10000000) [ir_reredoskeep_CommitAsks_b0, i1, h3, x3, f5, p5, e0, h4, x4, f6, p6]
    exact ⟨by simp only [inR]; omega, hP2 _ [] (by simp (implicitDefEqProofs := false) (maxSteps := 10000000))⟩
  · have i1 : ¬ (k : Int) < N := by omega
    obtain rfl : k = N := by omega
    have e1 := gt_commit hS hNr
    have f5 := call2_F S 1 0 (2, [oneJ (gtT 0 k)]) 6000 ⟨4, 1, 0, 0, 0⟩
    have p5 := call2_pre S 1 0 6000 ⟨4, 1, 0, 0, 0⟩ (dkO_few hokh hdk)
    simp only at f5
    rw [e1] at f5
    have f7 := picked_F no (k + 1)
    have p7 := picked_pre hno (m := (k : Int) + 1) (by omega)
    have iN1 : inR .i64 ((k : Int) + 1) := by simp only [inR]; omega
    have hml : (((List.range k).map fun j => msgC (chM S j)).length : Int) = k := by simp
    have hmn : ((List.range k).map fun j => msgC (chM S j)).length = k := by simp
    have hme : ∀ i, i < k → elem ((List.range k).map fun j => msgC (chM S j)) i = msgC (chM S i) := fun i hi => by simp [elem, List.getD, hi]
    have hch := ch_dk hS hNr
    clear hP e1
    generalize oneJ (gtT 0 k) = J1 at f5 p5 ⊢
    generalize ((List.range k).map fun j => msgC (chM S j)) = M at f5 hml hmn hme
    generalize pk no ((k : Int) + 1) = bad at f7
    have hgo : ∀ (s0 : St) (σ : List (Nat × Option Nat)), St.le σ s0 ⟨mkTm 192 0 [(7, .own 7 0), (10, .own 10 0), (11, .int .i64 k), (17, .int .i64 bad), (110, .fz 12 M), (111, .int .i64 k), (112, .int .i64 ((0 : Nat) : Int))], [(7, .box [.int .i64 S, .fz 2 (ls2.map lbc), .int .i64 3]), (10, .box [.int .i64 2, .fz 6 [jbC (chJ 0 k)]])]⟩ → VC T ir_reredoskeep_CommitAsks_b1.loop (Kf T [Fr.blk 2, Fr.seq ir_reredoskeep_CommitAsks_r2] (fnPost [IRes.tmp 6] (D.bool true))) s0 := by
      intro s0 σ h0
      refine k_loop (ι := {i : Nat // i < k}) (fun x => ⟨mkTm 192 0 [(7, .own 7 0), (10, .own 10 0), (11, .int .i64 k), (17, .int .i64 bad), (110, .fz 12 M), (111, .int .i64 k), (112, .int .i64 x.1)], [(7, .box [.int .i64 S, .fz 2 (ls2.map lbc), .int .i64 3]), (10, .box [.int .i64 2, .fz 6 [jbC (chJ x.1 k)]])]⟩)
        (fun x => k - x.1) σ ⟨0, by omega⟩ h0 ?_
      rintro ⟨i, hi⟩ P hP
      simp only at hP ⊢
      have g1 : (i : Int) < k := by omega
      have g2 : i < M.length := by omega
      have g3 : (i : Int) < (M.length : Int) := by omega
      have hel := hme i hi
      obtain ⟨su, co, js, ms, rs, rp, e1, dk, c1, c2, c3⟩ := su_step hS hi (by omega) (hch i hi) ((i : Int) != bad)
      have f6 := hear2_F S 1 0 (2, [chJ i k]) (suM S i ((i : Int) != bad))
      have p6 := hear2_pre S 1 0 (suM S i ((i : Int) != bad)) (dkO_few hokh (hch i hi))
      simp only at f6
      rw [e1] at f6
      have ik : inR .i64 ((k : Int) - 1) := by simp only [inR]; omega
      clear e1 dk hch hme h0
      generalize chJ i k = J1 at f6 p6 ⊢
      simp only [chM, suM, hd2, cfgD, dkD, dkC, clC, msgC, trnC, List.map_cons, List.map_nil] at hel f6 p6 ⊢
      by_cases hb : (i : Int) = bad
      · have hbn : ((i : Int) != bad) = false := by simp [hb]
        obtain ⟨q1, q2⟩ := c1 hbn
        subst q1 q2
        subst hb
        simp only [hbn, rpC] at f6 p6
        simp (implicitDefEqProofs := false) (maxSteps := 10000000) [ir_reredoskeep_CommitAsks_b1, g1, g2, g3, hel, h5, x5, f6, p6, e0]
      · have hbn : ((i : Int) != bad) = true := by simp [hb]
        by_cases hl : i + 1 < k
        · obtain ⟨q1, q2⟩ := c2 hbn hl
          subst q1 q2
          have hne : ¬ (i : Int) = (k : Int) - 1 := by omega
          have hP2 : ∀ (s : St) (σ : List (Nat × Option Nat)), St.le σ s ⟨mkTm 192 0 [(7, .own 7 0), (10, .own 10 0), (11, .int .i64 k), (17, .int .i64 bad), (110, .fz 12 M), (111, .int .i64 k), (112, .int .i64 ((i + 1 : Nat) : Int))], [(7, .box [.int .i64 S, .fz 2 (ls2.map lbc), .int .i64 3]), (10, .box [.int .i64 2, .fz 6 [jbC (chJ (i + 1) k)]])]⟩ → P s := fun s σ hs => hP s σ ⟨i + 1, by omega⟩ hs (by simp only; omega)
          clear hP
          generalize chJ (i + 1) k = J2 at f6 hP2
          simp only [hbn, List.map_cons, List.map_nil] at f6 p6
          simp (implicitDefEqProofs := false) (maxSteps := 10000000) [ir_reredoskeep_CommitAsks_b1, g1, g2, g3, hel, hb, hbn, h5, x5, f6, p6, e0, hne, ik]
          exact ⟨by simp only [inR]; omega, hP2 _ [] (by simp (implicitDefEqProofs := false) (maxSteps := 10000000))⟩
        · obtain ⟨q1, q2⟩ := c3 hbn (by omega)
          subst q1 q2
          have hne : (i : Int) = (k : Int) - 1 := by omega
          clear hP
          simp only [hbn, rpC] at f6 p6
          simp (implicitDefEqProofs := false) (maxSteps := 10000000) [ir_reredoskeep_CommitAsks_b1, g1, g2, g3, hel, hb, hbn, h5, x5, f6, p6, e0, ik, ← hne]
          simp only [inR]; omega
    simp only [hd2, cfgD, dkD, dkC, clC, rpC, trnC, List.map_cons, List.map_nil] at f5 p5 ⊢
    simp (implicitDefEqProofs := false) (maxSteps := 10000000) [ir_reredoskeep_CommitAsks_b0, ir_reredoskeep_CommitAsks_r3, i1, h3, x3, f5, p5, hml, h2, x2, f7, p7, iN1]
    exact hgo _ [] (by simp (implicitDefEqProofs := false) (maxSteps := 10000000))
end
end Go.Proofs.YtchbnpjegacobaaDoor
