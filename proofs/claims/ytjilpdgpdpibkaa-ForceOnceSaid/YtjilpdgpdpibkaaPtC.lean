/-
  ForceOnce answers true on data. Conditions: those of its specification's 'pre', and that the functions that are called are what theirs say.
-/
import Derived.Test.YtjilpdgpdpibkaaPtB
import Derived.Test.YtjilpdgpdpibkaaStO
set_option linter.unusedVariables false
set_option linter.unusedSimpArgs false
namespace Go.Proofs.Ytjilpdgpdpibkaa
open Go Go.Vcg

theorem force_plain {s : Sto} (h : InvK 25 s) {t : Tx} (ht : 0 ≤ t.1 ∧ t.1 < 2 ∧ 1 ≤ t.2 ∧ t.2 ≤ 5) (yes : Bool) : writesS s t = (((wrN s.locks t : Nat) : Int), 0) ∧ (wrN s.locks t = 0 → forceD s [] t yes = .tup [.agg (ansC s0 [] [] []), .int .i64 6]) ∧ (0 < wrN s.locks t → ∃ u, forceD s [] t yes = .tup [.agg (ansC u [] [recC 6 t yes] [ntC ⟨t.1, t.2, yes, false⟩]), .int .i64 0] ∧ OkS u ∧ u = (endS s t yes).1 ∧ forceD u [⟨t.1, t.2, yes, false⟩] t yes = .tup [.agg (ansC s0 [] [] []), .int .i64 6]) := by
  have ht' : okTx t.1 t.2 = true := okTx_of ⟨ht.1, by omega⟩ ⟨ht.2.2.1, by omega⟩
  have c0 : callE s t 0 = 0 := callE_ok ((okS_iff s).2 h.ok) ht' ⟨by omega, by omega⟩
  have hw : writesS s t = (((wrN s.locks t : Nat) : Int), 0) := by rw [writesS, if_neg (by simp [c0])]
  refine ⟨hw, fun h0 => ?_, fun h1 => ?_⟩
  · rw [forceD, hw, if_neg (by simp), if_pos (by simp [h0])]
  · obtain ⟨u, hp, hu, hn, -, -, -, hL, h0⟩ := end_plain (invK_mono h (by decide)) ht yes
    have hu1 : (endS s t yes).1 = u := by rw [hp]
    have c1 : callE u t 0 = 0 := callE_ok ((okS_iff u).2 hu) ht' ⟨by omega, by omega⟩
    have hw2 : writesS u t = (0, 0) := by rw [writesS, if_neg (by simp [c1]), h0]; rfl
    refine ⟨u, ?_, hu, hu1.symm, ?_⟩
    · rw [forceD, hw, if_neg (by simp), if_neg (by simp only; omega), if_neg (by simp), hu1]
      rfl
    · rw [forceD, hw2, if_neg (by simp), if_pos (by simp)]
def sp_ForceOnce : Sp := { pre := fun ds => ∃ (l : List Rw) (t : Rw) (yes : Bool), ds = [rawsD l, rawD t, .bool yes] ∧ okRaws l ∧ okRaw t, F := fun _ => .bool true }
section
variable {T : Tb}
attribute [local simp] k_seq k_block k_skip k_reg k_alt k_cond k_exit k_ret kf_nil kf_seq_n kf_seq_e kf_seq_r kf_blk_n kf_blk_e kf_blk_r kf_lp_n kf_lp_e kf_lp_r kf_cut_n kf_cut_e kf_cut_r mkTm VCops VCalt istep act gd applyE wrapD Opd.ev get_mk set_mk set_mk0 tget16 tset16 tget_0 tset_0 tget_1 tset_1 tget_2 tset_2 tget_3 tset_3 tget_4 tset_4 tget_5 tset_5 tget_6 tset_6 tget_7 tset_7 tget_8 tset_8 tget_9 tset_9 tget_10 tset_10 tget_11 tset_11 tget_12 tset_12 tget_13 tset_13 tget_14 tset_14 tget_15 tset_15 D.un D.gu gus IOp.opds binD fnPost getRes IRes.get oneRes D.out outL D.clos closL D.norow norowL D.lv lvL D.scal scalL D.cells D.cell D.cell' St.lk obPut obDel List.lookup cut pickD splice fillParts fillRows elem_cons newsOf D.pl D.forget forgetL Ob.forget forgetO eqCells sg leD leDL leOb apartK St.le D.keys keysL D.rows rowsL obKeys addKeys reach pos D.ren renL Ob.ren inM outM inObs outObs goneK apartN okNames_eq okNms obNms namesOK_nil namesOK_cons freeOK_nil freeOK_cons D.frz frzL Ob.frz frzO St.frz forgetLs dropObs putObs hcall freeOf keeps baseN shD isShift shMax k_bad VCopsG frz_nil actx actc cnum vwCut St.frzT St.opnT St.clsT D.opn opnL Ob.opn opnO
set_option maxRecDepth 100000 in
set_option maxHeartbeats 8000000 in
theorem v_ForceOnce (h1 : T.sp n_reredoskeep_Store = some sp_Store) (h2 : T.sp n_reredoskeep_picked = some sp_picked) (h3 : T.sp n_store_Writes = some sp_Writes) (h4 : T.sp n_reredoskeep_two = some sp_two) (h5 : T.sp n_part_Force = some sp_Force) : Verified T ir_reredoskeep_ForceOnce sp_ForceOnce := by
  refine Verified.mk ?_
  rintro ds ⟨l, ⟨t0, a, t2, t3, t4, t5⟩, yes, rfl, hl, ht⟩
  have ha : inR .i64 a := ht.2.1
  have x1 : sp_Store.hx = none := rfl
  have x2 : sp_picked.hx = none := rfl
  have x3 : sp_Writes.hx = none := rfl
  have x4 : sp_two.hx = none := rfl
  have x5 : sp_Force.hx = none := rfl
  have f1 : sp_Store.F [.fz 6 (l.map rawC), .int .i64 25] = _ := store_F l 25
  have p1 : sp_Store.pre [.fz 6 (l.map rawC), .int .i64 25] = True := store_pre hl (m := 25) (by decide)
  have hI := invK_store l (m := 25) (by decide)
  have hF := fewN_store l 25
  generalize storeK l 25 = s at f1 hI hF
  have b1 := pk_bounds a 4 (by decide)
  have q1 := pk_pre ha (m := 4) (by decide)
  have q1' := pk_F a 4
  generalize pk a 4 = A at b1 q1'
  have r1 : inR .i64 (1 + A) := by simp only [inR]; omega
  have f2 := two_F 0
  have e2 : (1 : Int) + pk 0 3 = 1 := by decide
  rw [e2] at f2
  have p2 := two_pre (s := 0) (by simp [inR])
  have hFs := fewN_fewS' hF (by decide)
  obtain ⟨hp1, hp2, hp3⟩ := force_plain hI (t := (0, 1 + A)) (by simp only; omega) yes
  have f3 := writes_F s (0, 1 + A)
  have p3 := writes_pre hFs (0, 1 + A)
  rw [hp1] at f3
  have f4 := force_F 1 3 0 s [] (0, 1 + A) yes
  have p4 := force_pre (S := 1) (P := 3) (me := 0) (ns := []) (by omega) (by omega) (by omega) hI.ok hFs (by simp) (0, 1 + A) yes
  have h20 := few20 hI
  have hle := wrN_le s.locks (0, 1 + A)
  by_cases h0 : wrN s.locks (0, 1 + A) = 0
  · rw [hp2 h0] at f4
    rw [h0] at f3
    clear hI hF hFs hp1 hp2 hp3 h0 hle
    obtain ⟨s1, s2, s3, s4⟩ := s
    simp only [stoC, txC, twoC, nilS, ansC, s0, List.map_nil] at f1 f2 p2 f3 p3 f4 p4
    simp only [rawsD, rawD, rawC]
    simp (implicitDefEqProofs := false) (maxSteps := 10000000) [ir_reredoskeep_ForceOnce, h1, x1, h2, x2, h3, x3, h4, x4, h5, x5, f1, p1, f2, p2, f3, p3, f4, p4, q1, q1', r1]
    all_goals exact rfl
  · obtain ⟨u, hq1, hu, hu1, hq2⟩ := hp3 (by omega)
    have hFu : fewN u 26 := hu1 ▸ fewN_end hF (0, 1 + A) yes
    have f5 := force_F 1 3 0 u [⟨0, 1 + A, yes, false⟩] (0, 1 + A) yes
    have p5 := force_pre (S := 1) (P := 3) (me := 0) (ns := [⟨0, 1 + A, yes, false⟩]) (by omega) (by omega) (by omega) hu (fewN_fewS' hFu (by decide)) (by simp) (0, 1 + A) yes
    rw [hq1] at f4
    rw [hq2] at f5
    have h0' : ¬ ((wrN s.locks (0, 1 + A) : Nat) : Int) = 0 := by omega
    clear hI hF hFs hp1 hp2 hp3 hu hu1 hFu hq1 hq2 h0
    generalize wrN s.locks (0, 1 + A) = n at f3 h0' hle
    obtain ⟨s1, s2, s3, s4⟩ := s
    obtain ⟨u1, u2, u3, u4⟩ := u
    simp only [stoC, txC, twoC, nilS, ansC, s0, recC, ntC, List.map_nil, List.map_cons] at f1 f2 p2 f3 p3 f4 p4 f5 p5
    simp only [rawsD, rawD, rawC]
    simp (implicitDefEqProofs := false) (maxSteps := 10000000) [ir_reredoskeep_ForceOnce, h1, x1, h2, x2, h3, x3, h4, x4, h5, x5, f1, p1, f2, p2, f3, p3, f4, p4, f5, p5, q1, q1', r1, h0']
    exact ⟨fun h => absurd h (by omega), fun _ => rfl⟩
end
end Go.Proofs.Ytjilpdgpdpibkaa
