/-
  AgeAsks answers true on data. Conditions: those of its specification's 'pre', and that the functions that are called are what theirs say.
-/
import Derived.Test.YtjilpdgpdpibkaaSt7
set_option linter.unusedVariables false
set_option linter.unusedSimpArgs false
namespace Go.Proofs.Ytjilpdgpdpibkaa
open Go Go.Vcg

def sp_AgeAsks : Sp := { pre := fun ds => ∃ p t : Int, ds = [.int .i64 p, .int .i64 t] ∧ inR .i64 p ∧ inR .i64 t, F := fun _ => .bool true }
theorem pk_pre {n m : Int} (h : inR .i64 n) (hm : 0 < m) : sp_picked.pre [.int .i64 n, .int .i64 m] = True := by
  simp only [sp_picked, eq_iff_iff, iff_true]; exact ⟨_, _, rfl, h, hm⟩
theorem pk_F (n m : Int) : sp_picked.F [.int .i64 n, .int .i64 m] = .int .i64 (pk n m) := rfl
theorem write_F (s : Sto) (t : Tx) (k v q : Int) : sp_Write.F [.agg (stoC s), .agg (txC t), .int .i64 k, .int .i64 v, .int .i64 q] = .tup [.agg (stoC (writeS s t k v q).1), .int .i64 (writeS s t k v q).2] := by
  have e : D.agg (stoC s) = stoD s := rfl
  simp only [sp_Write, e, stoOf_stoD, txOf_txC]
  rfl
theorem write_pre {s : Sto} (h : fewS' s) (t : Tx) (k v q : Int) : sp_Write.pre [.agg (stoC s), .agg (txC t), .int .i64 k, .int .i64 v, .int .i64 q] = True := by
  simp only [sp_Write, eq_iff_iff, iff_true]; exact ⟨s, t, k, v, q, rfl, h⟩
theorem age_F (s : Sto) (p : Int) : sp_Age.F [.agg (stoC s), .int .i64 p] = .tup [.agg (stoC (ageS s p).1.1), .fz 2 ((ageS s p).1.2.map txC), .int .i64 (ageS s p).2] := by
  have e : D.agg (stoC s) = stoD s := rfl
  simp only [sp_Age, e, stoOf_stoD]
  rfl
theorem age_pre {s : Sto} (h : fewS' s) (p : Int) : sp_Age.pre [.agg (stoC s), .int .i64 p] = True := by
  simp only [sp_Age, eq_iff_iff, iff_true]; exact ⟨s, p, rfl, h⟩

/-- A store with one write in it. -/
def oneS (age : Int) : Sto := ⟨[], [⟨0, 1, 3, true, 4, 1⟩], [⟨0, 1, age⟩], []⟩
theorem okS_mk {s : Sto} (h1 : okItems s.items s.items.length) (h2 : okDoubts s s.doubts.length) (h3 : okOver s.over s.over.length) (h4 : okLocks s s.locks.length) (h5 : s.locks.length ≤ 24) : okS s = true := by
  simp only [okS, Bool.and_eq_true]
  exact ⟨⟨okItemsB_iff.2 h1, okDoubtsB_iff.2 ⟨h2, h3⟩⟩, okLocksB_iff.2 ⟨h4, h5⟩⟩
theorem okS_s0 : okS s0 = true := by
  refine okS_mk ?_ ?_ ?_ ?_ ?_ <;> simp [s0, okItems, okDoubts, okOver, okLocks]
theorem okS_oneS {a : Int} (h0 : 0 ≤ a) (h1 : a ≤ 1048576) : okS (oneS a) = true := by
  refine okS_mk ?_ ?_ ?_ ?_ ?_
  · simp [oneS, okItems]
  · intro i hi
    have : i = 0 := by simp [oneS] at hi; omega
    subst this
    refine ⟨by simp [oneS, okDb, okTx, isTx, h0, h1], fun k hk => by omega⟩
  · simp [oneS, okOver]
  · intro i hi
    have : i = 0 := by simp [oneS] at hi; omega
    subst this
    exact ⟨by simp [oneS, okLk, doubtedB, isTx], fun k hk => by omega⟩
  · simp [oneS]
theorem write_one : writeS s0 (0, 1) 3 4 1 = (oneS 0, 0) := by
  have h : callE s0 (0, 1) 3 = 0 := by simp [callE, okS_s0, okTx]
  have h2 : lockI s0 (0, 1) 3 = -1 := by simp [lockI, s0, idxOf]
  have h3 : overB s0 (0, 1) = false := by simp [overB, s0]
  have h4 : busyB s0 (0, 1) 3 true = false := by simp [busyB, s0]
  have h5 : (itemAt s0.items 3).version = 0 := by simp [itemAt, s0, hasK]
  rw [writeS, if_neg (by simp [h]), if_neg (by simp [okVQ]), if_neg (by simp [h3, h2]), if_neg (by simp [h4]), if_neg (by
    rintro (⟨_, h⟩ | h)
    · simp [s0] at h
    · rw [h5] at h; cases h), h2]
  simp [putL, s0, handD, oneS]
theorem age_one {a p : Int} (h0 : 0 ≤ a) (h1 : a ≤ 1048576) (hp : 1 ≤ p ∧ p ≤ 1048576) : ageS (oneS a) p = ((oneS (if p ≤ a + 1 then 0 else a + 1), if p ≤ a + 1 then [(0, 1)] else []), 0) := by
  rw [ageS, if_neg (by simp [okS_oneS h0 h1]), if_neg (by simpa using hp)]
  by_cases h : p ≤ a + 1 <;> simp [oneS, bump, toldL, h]

section
variable {T : Tb}
attribute [local simp] k_seq k_block k_skip k_reg k_alt k_cond k_exit k_ret kf_nil kf_seq_n kf_seq_e kf_seq_r kf_blk_n kf_blk_e kf_blk_r kf_lp_n kf_lp_e kf_lp_r kf_cut_n kf_cut_e kf_cut_r mkTm VCops VCalt istep act gd applyE wrapD Opd.ev get_mk set_mk set_mk0 tget16 tset16 tget_0 tset_0 tget_1 tset_1 tget_2 tset_2 tget_3 tset_3 tget_4 tset_4 tget_5 tset_5 tget_6 tset_6 tget_7 tset_7 tget_8 tset_8 tget_9 tset_9 tget_10 tset_10 tget_11 tset_11 tget_12 tset_12 tget_13 tset_13 tget_14 tset_14 tget_15 tset_15 D.un D.gu gus IOp.opds binD fnPost getRes IRes.get oneRes D.out outL D.clos closL D.norow norowL D.lv lvL D.scal scalL D.cells D.cell D.cell' St.lk obPut obDel List.lookup cut pickD splice fillParts fillRows elem_cons newsOf D.pl D.forget forgetL Ob.forget forgetO eqCells sg leD leDL leOb apartK St.le D.keys keysL D.rows rowsL obKeys addKeys reach pos D.ren renL Ob.ren inM outM inObs outObs goneK apartN okNames_eq okNms obNms namesOK_nil namesOK_cons freeOK_nil freeOK_cons D.frz frzL Ob.frz frzO St.frz forgetLs dropObs putObs hcall freeOf keeps baseN shD isShift shMax k_bad VCopsG frz_nil actx actc cnum vwCut St.frzT St.opnT St.clsT D.opn opnL Ob.opn opnO
set_option maxRecDepth 100000 in
set_option maxHeartbeats 8000000 in
theorem v_AgeAsks (h1 : T.sp n_reredoskeep_picked = some sp_picked) (h2 : T.sp n_store_Write = some sp_Write) (h3 : T.sp n_store_Age = some sp_Age) : Verified T ir_reredoskeep_AgeAsks sp_AgeAsks := by
  refine Verified.mk ?_
  rintro ds ⟨p, t, rfl, hp, ht⟩
  have x1 : sp_picked.hx = none := rfl
  have x2 : sp_Write.hx = none := rfl
  have x3 : sp_Age.hx = none := rfl
  have b1 := pk_bounds p 6 (by decide)
  have b2 := pk_bounds t 40 (by decide)
  have q1 := pk_pre hp (m := 6) (by decide)
  have q2 := pk_F p 6
  have q3 := pk_pre ht (m := 40) (by decide)
  have q4 := pk_F t 40
  obtain ⟨m, hm⟩ : ∃ m : Nat, 1 + pk p 6 = m := ⟨(1 + pk p 6).toNat, by omega⟩
  generalize pk p 6 = p' at b1 q2 hm
  obtain ⟨n, hn⟩ : ∃ n : Nat, pk t 40 = n := ⟨(pk t 40).toNat, by omega⟩
  rw [hn] at b2 q4
  have hm1 : 1 ≤ m ∧ m ≤ 6 := by omega
  have w1 := write_F s0 (0, 1) 3 4 1
  have w2 := write_pre (s := s0) ⟨by simp [s0], by simp [s0], by simp [s0], by simp [s0]⟩ (0, 1) 3 4 1
  rw [write_one] at w1
  simp only [stoC, s0, txC, List.map_nil] at w1 w2
  generalize hO : stoC (oneS 0) = O0
  have hO' : stoC (oneS 0) = [.fz 3 [], .fz 6 [lkC ⟨0, 1, 3, true, 4, 1⟩], .fz 3 [dbC ⟨0, 1, 0⟩], .fz 2 []] := rfl
  clear hO O0
  simp only [oneS, stoC, List.map_cons, List.map_nil] at w1
  simp (implicitDefEqProofs := false) (maxSteps := 10000000) [ir_reredoskeep_AgeAsks, h1, h2, x1, x2, q1, q2, q3, q4, w1, w2, hm]
  refine ⟨by simp only [inR]; omega, ?_⟩
  refine k_loop (ι := {i : Nat // i ≤ n}) (fun x => ⟨mkTm 59 0 [(5, .int .i64 m), (6, .int .i64 n), (7, .own 7 0), (8, .int .i64 0), (9, .int .i64 (x.1 / m : Nat)), (10, .int .i64 x.1)], [(7, .box [.fz 3 [], .fz 6 [lkC ⟨0, 1, 3, true, 4, 1⟩], .fz 3 [dbC ⟨0, 1, ((x.1 % m : Nat) : Int)⟩], .fz 2 []])]⟩)
    (fun x => n - x.1) [] ⟨0, by omega⟩ (by simp (implicitDefEqProofs := false) (maxSteps := 10000000)) ?_
  rintro ⟨i, hi⟩ P hQ
  by_cases h : i < n
  · have hil : (i : Int) < n := by omega
    have hml : i % m < m := Nat.mod_lt _ (by omega)
    have ag := age_one (a := ((i % m : Nat) : Int)) (p := m) (by omega) (by omega) (by omega)
    have a1 := age_F (oneS ((i % m : Nat) : Int)) m
    have a2 := age_pre (s := oneS ((i % m : Nat) : Int)) ⟨by simp [oneS], by simp [oneS], by simp [oneS], by simp [oneS]⟩ m
    rw [ag] at a1
    have hdiv : i / m ≤ i := Nat.div_le_self i m
    by_cases hc : i % m + 1 = m
    · have hc' : (m : Int) ≤ ((i % m : Nat) : Int) + 1 := by omega
      rw [if_pos hc', if_pos hc'] at a1
      have e1 : (i + 1) % m = 0 := by
        rcases (show m = 1 ∨ m = 2 ∨ m = 3 ∨ m = 4 ∨ m = 5 ∨ m = 6 by omega) with rfl | rfl | rfl | rfl | rfl | rfl <;> omega
      have e2 : (i + 1) / m = i / m + 1 := by
        rcases (show m = 1 ∨ m = 2 ∨ m = 3 ∨ m = 4 ∨ m = 5 ∨ m = 6 by omega) with rfl | rfl | rfl | rfl | rfl | rfl <;> omega
      simp only [oneS, stoC, List.map_cons, List.map_nil] at a1 a2
      generalize hA : i / m = A at e2 hdiv hQ ⊢
      generalize hB : i % m = B at hc hc' hml a1 a2 hQ ⊢
      simp (implicitDefEqProofs := false) (maxSteps := 10000000) [ir_reredoskeep_AgeAsks_b0, hil, h3, x3, a1, a2]
      exact ⟨by simp only [inR]; omega, by simp only [inR]; omega, hQ _ [] ⟨i + 1, by omega⟩ (by simp only [e1, e2]; simp (implicitDefEqProofs := false) (maxSteps := 10000000)) (by simp only; omega)⟩
    · have hc' : ¬ (m : Int) ≤ ((i % m : Nat) : Int) + 1 := by omega
      rw [if_neg hc', if_neg hc'] at a1
      have e1 : (i + 1) % m = i % m + 1 := by
        rcases (show m = 1 ∨ m = 2 ∨ m = 3 ∨ m = 4 ∨ m = 5 ∨ m = 6 by omega) with rfl | rfl | rfl | rfl | rfl | rfl <;> omega
      have e2 : (i + 1) / m = i / m := by
        rcases (show m = 1 ∨ m = 2 ∨ m = 3 ∨ m = 4 ∨ m = 5 ∨ m = 6 by omega) with rfl | rfl | rfl | rfl | rfl | rfl <;> omega
      simp only [oneS, stoC, List.map_cons, List.map_nil] at a1 a2
      generalize hA : i / m = A at e2 hdiv hQ ⊢
      generalize hB : i % m = B at hc hc' hml e1 a1 a2 hQ ⊢
      simp (implicitDefEqProofs := false) (maxSteps := 10000000) [ir_reredoskeep_AgeAsks_b0, hil, h3, x3, a1, a2]
      exact ⟨by simp only [inR]; omega, by simp only [inR]; omega, hQ _ [] ⟨i + 1, by omega⟩ (by simp only [e1, e2]; simp (implicitDefEqProofs := false) (maxSteps := 10000000)) (by simp only; omega)⟩
  · have hin : i = n := by omega
    subst hin
    have hq : ((i : Int)).tdiv m = ((i / m : Nat) : Int) := by
      rw [Int.tdiv_eq_ediv_of_nonneg (by omega)]
      exact (Int.natCast_ediv i m).symm
    simp (implicitDefEqProofs := false) (maxSteps := 10000000) [ir_reredoskeep_AgeAsks_b0, ir_reredoskeep_AgeAsks_r1, hq]
    exact ⟨⟨by omega, by simp only [inR]; omega⟩, rfl⟩
end
end Go.Proofs.Ytjilpdgpdpibkaa
