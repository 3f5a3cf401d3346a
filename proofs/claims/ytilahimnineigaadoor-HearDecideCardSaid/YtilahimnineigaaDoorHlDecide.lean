/-
  HearDecide answers true on data. Conditions: those of its specification's 'pre', and that the functions that are called are what theirs say.
-/
import Derived.Test.YtilahimnineigaaDoorPtJ
set_option linter.unusedVariables false
set_option linter.unusedSimpArgs false
namespace Go.Proofs.YtilahimnineigaaDoor
open Go Go.Vcg

def sp_HearDecide : Sp := { pre := fun ds => ∃ (l : List Rw) (t : Rw) (yes : Bool), ds = [rawsD l, rawD t, .bool yes] ∧ okRaws l ∧ okRaw t, F := fun _ => .bool true }
def decM (n : Int) (yes : Bool) : Ms := ⟨4, 0, 0, 0, n, 0, 0, 0, 0, 0, yes, 0⟩
theorem decM_ok {n : Int} (h : 1 ≤ n ∧ n ≤ 1000) (yes : Bool) : chkM 1 [(0, 0), (1, 0)] 3 (decM n yes) = 0 := by
  refine chk_one (by simp [decM]) (by simp [decM]) (by simp only [decM]; omega) rfl rfl (by simp [decM]) rfl rfl ?_
  simp [okForm, decM, pt, parts]
section
variable {T : Tb}
attribute [local simp] k_seq k_block k_skip k_reg k_alt k_cond k_exit k_ret kf_nil kf_seq_n kf_seq_e kf_seq_r kf_blk_n kf_blk_e kf_blk_r kf_lp_n kf_lp_e kf_lp_r kf_cut_n kf_cut_e kf_cut_r mkTm VCops VCalt istep act gd applyE wrapD Opd.ev get_mk set_mk set_mk0 tget16 tset16 tget_0 tset_0 tget_1 tset_1 tget_2 tset_2 tget_3 tset_3 tget_4 tset_4 tget_5 tset_5 tget_6 tset_6 tget_7 tset_7 tget_8 tset_8 tget_9 tset_9 tget_10 tset_10 tget_11 tset_11 tget_12 tset_12 tget_13 tset_13 tget_14 tset_14 tget_15 tset_15 D.un D.gu gus IOp.opds binD fnPost getRes IRes.get oneRes D.out outL D.clos closL D.norow norowL D.lv lvL D.scal scalL D.cells D.cell D.cell' St.lk obPut obDel List.lookup cut pickD splice fillParts fillRows elem_cons newsOf D.pl D.forget forgetL Ob.forget forgetO eqCells sg leD leDL leOb apartK St.le D.keys keysL D.rows rowsL obKeys addKeys reach pos D.ren renL Ob.ren inM outM inObs outObs goneK apartN okNames_eq okNms obNms namesOK_nil namesOK_cons freeOK_nil freeOK_cons D.frz frzL Ob.frz frzO St.frz forgetLs dropObs putObs hcall freeOf keeps baseN shD isShift shMax k_bad VCopsG frz_nil actx actc cnum vwCut St.frzT St.opnT St.clsT D.opn opnL Ob.opn opnO
set_option maxRecDepth 100000 in
set_option maxHeartbeats 8000000 in
theorem v_HearDecide (h1 : T.sp n_reredoskeep_Store = some sp_Store) (h2 : T.sp n_reredoskeep_picked = some sp_picked) (h3 : T.sp n_reredoskeep_two = some sp_two) (h4 : T.sp n_part_Hear = some sp_Hear) (h5 : T.sp n_store_Writes = some sp_Writes) (h6 : T.sp n_reredoskeep_sameStore = some sp_same) : Verified T ir_reredoskeep_HearDecide sp_HearDecide := by
  refine Verified.mk ?_
  rintro ds ⟨l, ⟨t0, a, t2, t3, t4, t5⟩, yes, rfl, hl, ht⟩
  have ha : inR .i64 a := ht.2.1
  have x1 : sp_Store.hx = none := rfl
  have x2 : sp_picked.hx = none := rfl
  have x3 : sp_two.hx = none := rfl
  have x4 : sp_Hear.hx = none := rfl
  have x5 : sp_Writes.hx = none := rfl
  have x6 : sp_same.hx = none := rfl
  have f1 : sp_Store.F [.fz 6 (l.map rawC), .int .i64 25] = _ := store_F l 25
  have p1 : sp_Store.pre [.fz 6 (l.map rawC), .int .i64 25] = True := store_pre hl (m := 25) (by decide)
  have hI := invK_store l (m := 25) (by decide)
  have hF := fewN_store l 25
  generalize storeK l 25 = s at f1 hI hF
  have b1 := pk_bounds a 4 (by decide)
  have q1 := pk_pre ha (m := 4) (by decide)
  have q1' := pk_F a 4
  generalize pk a 4 = A at b1 q1'
  have f2 := two_F 0
  have e2 : (1 : Int) + pk 0 3 = 1 := by decide
  rw [e2] at f2
  have p2 := two_pre (s := 0) (by simp [inR])
  have o0 : OkS s0 := (okS_iff _).1 okS_s0
  have n0 : fewN s0 90 := fewN_s0 90
  have r1 : inR .i64 (1 + A) := by simp only [inR]; omega
  have hok := decM_ok (n := 1 + A) (by omega) yes
  obtain ⟨u, hp, hu, hag, hw0, -⟩ := end_again hI (by decide) (t := (0, 1 + A)) (by simp only; omega) yes
  have hw := writes_of hI.ok (t := (0, 1 + A)) (okTx_of (t := (0, 1 + A)) (by simp) (by simp only; omega))
  have hw2 := writes_of hu (t := (0, 1 + A)) (okTx_of (t := (0, 1 + A)) (by simp) (by simp only; omega))
  rw [hw0] at hw2
  have hFu : fewN u 26 := by
    have := fewN_end hF (0, 1 + A) yes
    rw [hp] at this; exact this
  have f3 := writes_F s (0, 1 + A)
  have p3 := writes_pre (fewN_fewS' hF (by decide)) (0, 1 + A)
  rw [hw] at f3
  have f4 := hear_F 1 3 0 0 s s0 [] 0 (decM (1 + A) yes)
  have p4 := hear_pre (S := 1) (P := 3) (l := 0) (me := 0) (m := decM (1 + A) yes) (ns := []) (by omega) (by omega) (by omega) (.inl rfl) hI.ok o0 (fewN_mono hF (by decide)) n0 (by simp) 0
  have f5 := hear_F 1 3 0 0 u s0 [] 0 (decM (1 + A) yes)
  have p5 := hear_pre (S := 1) (P := 3) (l := 0) (me := 0) (m := decM (1 + A) yes) (ns := []) (by omega) (by omega) (by omega) (.inl rfl) hu o0 (fewN_mono hFu (by decide)) n0 (by simp) 0
  have hE : hearE 1 3 0 0 (decM (1 + A) yes) = 0 := hear_zero hok rfl rfl (by omega) (by simp [decM])
  have d1 : decA s 0 (decM (1 + A) yes) [] = (u, [ansM 0 (decM (1 + A) yes) 8], if 0 < wrN s.locks (0, 1 + A) then [recC 2 (0, 1 + A) yes] else []) := by
    rw [decA]
    simp only [decM, hp, hw]
    by_cases h0 : 0 < wrN s.locks (0, 1 + A)
    · rw [if_pos h0, if_pos (.inl (by simpa using h0))]
    · rw [if_neg h0, if_neg (by simp; omega)]
  have d2 : decA u 0 (decM (1 + A) yes) [] = (u, [ansM 0 (decM (1 + A) yes) 8], []) := by
    rw [decA]
    simp only [decM, hag, hw2]
    rw [if_neg (by simp)]
  rw [hearD, if_neg (by simp [hE]), hearA, if_neg (by simp [decM]), if_neg (by simp [decM]), if_neg (by simp [decM]), d1] at f4
  rw [hearD, if_neg (by simp [hE]), hearA, if_neg (by simp [decM]), if_neg (by simp [decM]), if_neg (by simp [decM]), d2] at f5
  have p6 := same_pre (fewS_of hFu (by decide))
  have f6 : sp_same.F [.agg (stoC u), .agg (stoC u)] = .bool true := rfl
  clear hI hF hp hu hag hw hw2 hw0 hFu hE hok d1 d2 o0 n0
  generalize wrN s.locks (0, 1 + A) = n at f3 f4
  obtain ⟨s1, s2, s3, s4⟩ := s
  obtain ⟨u1, u2, u3, u4⟩ := u
  by_cases h0 : 0 < n
  · rw [if_pos h0] at f4
    have h1' : ¬ (n : Int) < 1 := by omega
    have hmin : min (n : Int) 1 = 1 := by omega
    simp only [stoC, txC, twoC, s0, ansD, ansC, msgC, ansM, decM, recC, List.map_nil, List.map_cons] at f1 f2 p2 f3 p3 f4 p4 f5 p5 f6 p6
    simp only [rawsD, rawD, rawC]
    simp (implicitDefEqProofs := false) (maxSteps := 10000000) [ir_reredoskeep_HearDecide, h1, x1, h2, x2, h3, x3, h4, x4, h5, x5, h6, x6, f1, p1, f2, p2, f3, p3, f4, p4, f5, p5, f6, p6, q1, q1', r1, hmin]
    all_goals exact rfl
  · rw [if_neg h0] at f4
    have h0' : n = 0 := by omega
    subst h0'
    simp only [stoC, txC, twoC, s0, ansD, ansC, msgC, ansM, decM, recC, List.map_nil, List.map_cons] at f1 f2 p2 f3 p3 f4 p4 f5 p5 f6 p6
    simp only [rawsD, rawD, rawC]
    simp (implicitDefEqProofs := false) (maxSteps := 10000000) [ir_reredoskeep_HearDecide, h1, x1, h2, x2, h3, x3, h4, x4, h5, x5, h6, x6, f1, p1, f2, p2, f3, p3, f4, p4, f5, p5, f6, p6, q1, q1', r1]
    all_goals exact rfl
end
end Go.Proofs.YtilahimnineigaaDoor
