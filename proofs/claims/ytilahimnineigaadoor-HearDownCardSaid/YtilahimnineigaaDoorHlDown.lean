/-
  HearDown answers true on data. Conditions: those of its specification's 'pre', and that the functions that are called are what theirs say.
-/
import Derived.Test.YtilahimnineigaaDoorPtJ
set_option linter.unusedVariables false
set_option linter.unusedSimpArgs false
namespace Go.Proofs.YtilahimnineigaaDoor
open Go Go.Vcg

def sp_HearDown : Sp := { pre := fun ds => ∃ (l h : List Rw) (t : Rw) (key : Int), ds = [rawsD l, rawsD h, rawD t, .int .i64 key] ∧ okRaws l ∧ okRaws h ∧ okRaw t ∧ inR .i64 key, F := fun _ => .bool true }
def rdM (n k : Int) : Ms := ⟨1, 0, 0, 0, n, 0, k, 0, 0, 1, false, 0⟩
theorem okKey_of' {k : Int} (h : 0 ≤ k ∧ k < 8) : okKey k = true := by
  rw [okKey, decide_eq_true h.1, decide_eq_true h.2]; rfl
theorem rdM_ok {n k : Int} (h : 1 ≤ n ∧ n ≤ 1000) (hk : 0 ≤ k ∧ k < 8) : chkM 1 [(0, 0), (1, 0)] 3 (rdM n k) = 0 := by
  refine chk_one (by simp [rdM]) (by simp [rdM]) (by simp only [rdM]; omega) ?_ rfl (by simp [rdM]) rfl rfl ?_
  · exact okKey_of' hk
  · simp [okForm, rdM, pt, parts]
theorem txn_F (a b : Int) : sp_Txn.F [.agg (twoC 1 3), .int .i64 a, .int .i64 b] = .agg [.int .i64 0, .int .i64 (1 + pk b 6)] := by
  have h := pk_bounds a 1 (by decide)
  have e : pk a 1 = 0 := by omega
  have e2 : sp_Txn.F [.agg (twoC 1 3), .int .i64 a, .int .i64 b] = .agg [.int .i64 (pk a 1), .int .i64 (1 + pk b 6)] := rfl
  rw [e2, e]
theorem txn_pre {a b : Int} (ha : inR .i64 a) (hb : inR .i64 b) : sp_Txn.pre [.agg (twoC 1 3), .int .i64 a, .int .i64 b] = True := by
  simp only [sp_Txn, eq_iff_iff, iff_true]
  exact ⟨_, a, b, rfl, ⟨rfl, by decide, by decide, by decide, by decide⟩, ha, hb⟩
section
variable {T : Tb}
attribute [local simp] k_seq k_block k_skip k_reg k_alt k_cond k_exit k_ret kf_nil kf_seq_n kf_seq_e kf_seq_r kf_blk_n kf_blk_e kf_blk_r kf_lp_n kf_lp_e kf_lp_r kf_cut_n kf_cut_e kf_cut_r mkTm VCops VCalt istep act gd applyE wrapD Opd.ev get_mk set_mk set_mk0 tget16 tset16 tget_0 tset_0 tget_1 tset_1 tget_2 tset_2 tget_3 tset_3 tget_4 tset_4 tget_5 tset_5 tget_6 tset_6 tget_7 tset_7 tget_8 tset_8 tget_9 tset_9 tget_10 tset_10 tget_11 tset_11 tget_12 tset_12 tget_13 tset_13 tget_14 tset_14 tget_15 tset_15 D.un D.gu gus IOp.opds binD fnPost getRes IRes.get oneRes D.out outL D.clos closL D.norow norowL D.lv lvL D.scal scalL D.cells D.cell D.cell' St.lk obPut obDel List.lookup cut pickD splice fillParts fillRows elem_cons newsOf D.pl D.forget forgetL Ob.forget forgetO eqCells sg leD leDL leOb apartK St.le D.keys keysL D.rows rowsL obKeys addKeys reach pos D.ren renL Ob.ren inM outM inObs outObs goneK apartN okNames_eq okNms obNms namesOK_nil namesOK_cons freeOK_nil freeOK_cons D.frz frzL Ob.frz frzO St.frz forgetLs dropObs putObs hcall freeOf keeps baseN shD isShift shMax k_bad VCopsG frz_nil actx actc cnum vwCut St.frzT St.opnT St.clsT D.opn opnL Ob.opn opnO
set_option maxRecDepth 100000 in
set_option maxHeartbeats 8000000 in
theorem v_HearDown (h1 : T.sp n_reredoskeep_Store = some sp_Store) (h2 : T.sp n_reredoskeep_two = some sp_two) (h3 : T.sp n_part_Hear = some sp_Hear) (h4 : T.sp n_reredoskeep_sameStore = some sp_same) (h5 : T.sp n_store_Peek = some sp_Peek) (h6 : T.sp n_reredoskeep_Txn = some sp_Txn) (h7 : T.sp n_reredoskeep_picked = some sp_picked) : Verified T ir_reredoskeep_HearDown sp_HearDown := by
  refine Verified.mk ?_
  rintro ds ⟨l, lh, ⟨t0, a, t2, t3, t4, t5⟩, key, rfl, hl, hlh, ht, hkey⟩
  have ha : inR .i64 a := ht.2.1
  have ht2 : inR .i64 t2 := ht.2.2.1
  have x1 : sp_Store.hx = none := rfl
  have x2 : sp_two.hx = none := rfl
  have x3 : sp_Hear.hx = none := rfl
  have x4 : sp_same.hx = none := rfl
  have x5 : sp_Peek.hx = none := rfl
  have x6 : sp_Txn.hx = none := rfl
  have x7 : sp_picked.hx = none := rfl
  have f1 : sp_Store.F [.fz 6 (l.map rawC), .int .i64 25] = _ := store_F l 25
  have p1 : sp_Store.pre [.fz 6 (l.map rawC), .int .i64 25] = True := store_pre hl (m := 25) (by decide)
  have hI := invK_store l (m := 25) (by decide)
  have hF := fewN_store l 25
  generalize storeK l 25 = s at f1 hI hF
  have b1 := pk_bounds key 8 (by decide)
  have q1 := pk_pre hkey (m := 8) (by decide)
  have q1' := pk_F key 8
  generalize pk key 8 = k at b1 q1'
  have f2 := two_F 0
  have e2 : (1 : Int) + pk 0 3 = 1 := by decide
  rw [e2] at f2
  have p2 := two_pre (s := 0) (by simp [inR])
  have o0 : OkS s0 := (okS_iff _).1 okS_s0
  have n0 : fewN s0 90 := fewN_s0 90
  have g1 : sp_Store.F [.fz 6 (lh.map rawC), .int .i64 10] = _ := store_F lh 10
  have gp1 : sp_Store.pre [.fz 6 (lh.map rawC), .int .i64 10] = True := store_pre hlh (m := 10) (by decide)
  have hI2 := invK_store lh (m := 10) (by decide)
  have hF2 := fewN_store lh 10
  generalize storeK lh 10 = w at g1 hI2 hF2
  have f3 := txn_F a t2
  have p3 := txn_pre ha ht2
  have b9 := pk_bounds t2 6 (by decide)
  generalize hN : 1 + pk t2 6 = N at f3
  have hok := rdM_ok (n := N) (k := k) (by omega) b1
  have hE : hearE 1 3 1 0 (rdM N k) = 0 := hear_zero hok rfl rfl (by omega) (by simp [rdM])
  have f4 := hear_F 1 3 1 0 s w [] 6000 (rdM N k)
  have p4 := hear_pre (S := 1) (P := 3) (l := 1) (me := 0) (m := rdM N k) (ns := []) (by omega) (by omega) (by omega) (.inr ⟨rfl, .inl rfl, rfl⟩) hI.ok hI2.ok (fewN_mono hF (by decide)) (fewN_mono hF2 (by decide)) (by simp) 6000
  have hA : readA s w 1 0 (rdM N k) = outR w w 0 (rdM N k) (peekS s k).1 (peekS s k).2.1 (peekS s k).2.2 := by
    rw [readA, if_neg (by decide)]
    rfl
  rw [hearD, if_neg (by simp [hE]), hearA, if_pos (by simp [rdM]), hA] at f4
  have f5 := peek_F s k
  have p5 := peek_pre (fewN_fewS' hF (by decide)) k
  have p6 := same_pre (fewS_of hF2 (by decide))
  have f6 : sp_same.F [.agg (stoC w), .agg (stoC w)] = .bool true := rfl
  have hp := peek_new hI b1
  have hv := ver_new hI k
  have hz : peekS s k = (0, 0, 11) ∨ ∃ v n, peekS s k = (v, n, 0) := by
    rw [hp]
    split
    · exact .inl rfl
    · exact .inr ⟨_, _, rfl⟩
  clear hp hv hA
  rcases hz with hz | ⟨v, n, hz⟩
  · rw [hz] at f4 f5
    clear hI hF hI2 hF2 hE hok o0 n0 hz
    obtain ⟨s1, s2, s3, s4⟩ := s
    obtain ⟨w1, w2, w3, w4⟩ := w
    simp only [stoC, txC, twoC, s0, outR, refB, ansD, ansC, msgC, gotM, ansM, rdM, List.map_nil, List.map_cons] at f1 g1 f2 p2 f3 p3 f4 p4 f5 p5 f6 p6
    simp (implicitDefEqProofs := false) at f4
    simp only [msgC] at f4
    simp only [rawsD, rawD, rawC]
    simp (implicitDefEqProofs := false) (maxSteps := 10000000) [ir_reredoskeep_HearDown, h1, x1, h2, x2, h3, x3, h4, x4, h5, x5, h6, x6, h7, x7, f1, p1, g1, gp1, f2, p2, f3, p3, f4, p4, f5, p5, f6, p6, q1, q1']
    exact ⟨by simp only [inR]; omega, rfl⟩
  · rw [hz] at f4 f5
    clear hI hF hI2 hF2 hE hok o0 n0 hz
    obtain ⟨s1, s2, s3, s4⟩ := s
    obtain ⟨w1, w2, w3, w4⟩ := w
    simp only [stoC, txC, twoC, s0, outR, refB, ansD, ansC, msgC, gotM, ansM, rdM, List.map_nil, List.map_cons] at f1 g1 f2 p2 f3 p3 f4 p4 f5 p5 f6 p6
    simp (implicitDefEqProofs := false) at f4
    simp only [msgC] at f4
    simp only [rawsD, rawD, rawC]
    simp (implicitDefEqProofs := false) (maxSteps := 10000000) [ir_reredoskeep_HearDown, h1, x1, h2, x2, h3, x3, h4, x4, h5, x5, h6, x6, h7, x7, f1, p1, g1, gp1, f2, p2, f3, p3, f4, p4, f5, p5, f6, p6, q1, q1']
    all_goals exact rfl
end
end Go.Proofs.YtilahimnineigaaDoor
