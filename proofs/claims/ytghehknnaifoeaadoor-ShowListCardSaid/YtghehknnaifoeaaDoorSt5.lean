/-
  Stores: Read computes what the plain function beside it says. Conditions: those of its specification's 'pre', and that the functions that are called are what theirs say.
-/
import Derived.Test.YtghehknnaifoeaaDoorSt4
set_option linter.unusedVariables false
set_option linter.unusedSimpArgs false
namespace Go.Proofs.YtghehknnaifoeaaDoor
open Go Go.Vcg

def s0 : Sto := ⟨[], [], [], []⟩
def overB (s : Sto) (t : Tx) : Bool := s.over.any fun u => isTx u.1 u.2 t
/-- The lock that was found. -/
def lockAt (s : Sto) (i : Int) : Lk := s.locks.getD i.toNat lk0
noncomputable def readS (s : Sto) (t : Tx) (k : Int) : Sto × Int × Int × Int :=
  if callE s t k ≠ 0 then (s0, 0, 0, callE s t k)
  else if 0 ≤ lockI s t k then (if (lockAt s (lockI s t k)).wr = true then (s, (lockAt s (lockI s t k)).value, (itemAt s.items k).version, 0) else (s, (itemAt s.items k).value, (itemAt s.items k).version, 0))
  else if overB s t = true then (s0, 0, 0, 13)
  else if busyB s t k false = true then (s0, 0, 0, 11)
  else if s.locks.length = 24 then (s0, 0, 0, 8)
  else ({ s with locks := s.locks ++ [⟨t.1, t.2, k, false, 0, 0⟩], doubts := handD s.doubts t }, (itemAt s.items k).value, (itemAt s.items k).version, 0)
/-- Not too much of anything to go on with. -/
def fewS' (s : Sto) : Prop := s.items.length ≤ 10000 ∧ s.locks.length ≤ 10000 ∧ s.doubts.length ≤ 10000 ∧ s.over.length ≤ 10000
theorem fewS'_fewS {s : Sto} (h : fewS' s) : fewS s := by
  obtain ⟨h1, h2, h3, h4⟩ := h
  exact ⟨by omega, by omega, by omega, by omega⟩
noncomputable def sp_Read : Sp := { pre := fun ds => ∃ (s : Sto) (t : Tx) (k : Int), ds = [stoD s, .agg (txC t), .int .i64 k] ∧ fewS' s, F := fun | [s, .agg t, .int _ k] => .tup [stoD (readS (stoOf s) (txOf t) k).1, .int .i64 (readS (stoOf s) (txOf t) k).2.1, .int .i64 (readS (stoOf s) (txOf t) k).2.2.1, .int .i64 (readS (stoOf s) (txOf t) k).2.2.2] | _ => .any }

theorem lock_F (s : Sto) (t : Tx) (k : Int) : sp_lock.F [.agg (stoC s), .agg (txC t), .int .i64 k] = .int .i64 (lockI s t k) := by
  have e : D.agg (stoC s) = stoD s := rfl
  simp only [sp_lock, e, stoOf_stoD, txOf_txC]
theorem lock_pre {s : Sto} (h : fewS s) (t : Tx) (k : Int) : sp_lock.pre [.agg (stoC s), .agg (txC t), .int .i64 k] = True := by
  simp only [sp_lock, eq_iff_iff, iff_true]; exact ⟨s, t, k, rfl, h⟩
theorem busy_F (s : Sto) (t : Tx) (k : Int) (a : Bool) : sp_busy.F [.agg (stoC s), .agg (txC t), .int .i64 k, .bool a] = .bool (busyB s t k a) := by
  have e : D.agg (stoC s) = stoD s := rfl
  simp only [sp_busy, e, stoOf_stoD, txOf_txC]
theorem busy_pre {s : Sto} (h : fewS s) (t : Tx) (k : Int) (a : Bool) : sp_busy.pre [.agg (stoC s), .agg (txC t), .int .i64 k, .bool a] = True := by
  simp only [sp_busy, eq_iff_iff, iff_true]; exact ⟨s, t, k, a, rfl, h⟩
theorem item_F (s : Sto) (k : Int) : sp_item.F [.agg (stoC s), .int .i64 k] = .agg (itC (itemAt s.items k)) := by
  have e : D.agg (stoC s) = stoD s := rfl
  simp only [sp_item, e, stoOf_stoD]
theorem item_pre {s : Sto} (h : fewS s) (hs : sortK s.items) (k : Int) : sp_item.pre [.agg (stoC s), .int .i64 k] = True := by
  simp only [sp_item, eq_iff_iff, iff_true]; exact ⟨s, k, rfl, hs, h⟩
theorem callE_zero {s : Sto} {t : Tx} {k : Int} (h : callE s t k = 0) : okS s = true ∧ okTx t.1 t.2 = true ∧ 0 ≤ k ∧ k < 8 := by
  unfold callE at h
  split at h
  · rename_i h1
    split at h
    · rename_i h2; exact ⟨h1, h2⟩
    · cases h
  · cases h
theorem okS_parts {s : Sto} (h : okS s = true) : okItems s.items s.items.length ∧ (okDoubts s s.doubts.length ∧ okOver s.over s.over.length) ∧ okLocks s s.locks.length ∧ s.locks.length ≤ 24 := by
  simp only [okS, Bool.and_eq_true] at h
  exact ⟨okItemsB_iff.1 h.1.1, okDoubtsB_iff.1 h.1.2, okLocksB_iff.1 h.2⟩
theorem lockI_bounds (s : Sto) (t : Tx) (k : Int) : -1 ≤ lockI s t k ∧ lockI s t k < s.locks.length := idxOf_bounds _ _

section
variable {T : Tb}
attribute [local simp] k_seq k_block k_skip k_reg k_alt k_cond k_exit k_ret kf_nil kf_seq_n kf_seq_e kf_seq_r kf_blk_n kf_blk_e kf_blk_r kf_lp_n kf_lp_e kf_lp_r kf_cut_n kf_cut_e kf_cut_r mkTm VCops VCalt istep act gd applyE wrapD Opd.ev get_mk set_mk set_mk0 tget16 tset16 tget_0 tset_0 tget_1 tset_1 tget_2 tset_2 tget_3 tset_3 tget_4 tset_4 tget_5 tset_5 tget_6 tset_6 tget_7 tset_7 tget_8 tset_8 tget_9 tset_9 tget_10 tset_10 tget_11 tset_11 tget_12 tset_12 tget_13 tset_13 tget_14 tset_14 tget_15 tset_15 D.un D.gu gus IOp.opds binD fnPost getRes IRes.get oneRes D.out outL D.clos closL D.norow norowL D.lv lvL D.scal scalL D.cells D.cell D.cell' St.lk obPut obDel List.lookup cut pickD splice fillParts fillRows elem_cons newsOf D.pl D.forget forgetL Ob.forget forgetO eqCells sg leD leDL leOb apartK St.le D.keys keysL D.rows rowsL obKeys addKeys reach pos D.ren renL Ob.ren inM outM inObs outObs goneK apartN okNames_eq okNms obNms namesOK_nil namesOK_cons freeOK_nil freeOK_cons D.frz frzL Ob.frz frzO St.frz forgetLs dropObs putObs hcall freeOf keeps baseN shD isShift shMax k_bad VCopsG frz_nil actx actc cnum vwCut St.frzT St.opnT St.clsT D.opn opnL Ob.opn opnO VCou VCcx St.oneS D.objI D.objK scrL D.scr St.opnS St.clsS D.cellS D.fzs fzsL k_mrk k_mrq IOper.gh
set_option maxRecDepth 100000 in
set_option maxHeartbeats 8000000 in
theorem v_Read (h1 : T.sp n_store_call = some sp_call) (h2 : T.sp n_store_item = some sp_item) (h3 : T.sp n_store_lock = some sp_lock) (h4 : T.sp n_slices_Contains_reredos_api_Txn_reredos_api_Txn = some sp_ContT) (h5 : T.sp n_store_busy = some sp_busy) (h6 : T.sp n_store_own = some sp_own) (h7 : T.sp n_store_hand = some sp_hand) : Verified T ir_store_Read sp_Read := by
  refine Verified.mk ?_
  rintro ds ⟨s, t, k, rfl, hf'⟩
  have hf := fewS'_fewS hf'
  simp only [sp_Read, stoOf_stoD, txOf_txC]
  have x1 : sp_call.hx = none := rfl
  have x2 : sp_item.hx = none := rfl
  have x3 : sp_lock.hx = none := rfl
  have x4 : sp_ContT.hx = none := rfl
  have x5 : sp_busy.hx = none := rfl
  have x6 : sp_own.hx = some hs_own := rfl
  have x7 : sp_hand.hx = some hs_hand := rfl
  have f1 := call_F s t k
  have p1 := call_pre hf t k
  by_cases hc : callE s t k = 0
  · obtain ⟨hok, _⟩ := callE_zero hc
    have hs := sortK_ok (okS_parts hok).1
    have f2 := item_F s k
    have p2 := item_pre hf hs k
    have f3 := lock_F s t k
    have p3 := lock_pre hf t k
    have p6 := own_pre hf
    have hb := lockI_bounds s t k
    rw [hc] at f1
    by_cases hi : 0 ≤ lockI s t k
    · have hel := elem_map lkC s.locks (lockI s t k).toNat (by omega)
      have hla : lockAt s (lockI s t k) = s.locks[(lockI s t k).toNat]'(by omega) := by
        have hlt : (lockI s t k).toNat < s.locks.length := by omega
        simp [lockAt, List.getD, hlt]
      rw [← hla] at hel
      have hr : readS s t k = if (lockAt s (lockI s t k)).wr = true then (s, (lockAt s (lockI s t k)).value, (itemAt s.items k).version, 0) else (s, (itemAt s.items k).value, (itemAt s.items k).version, 0) := by
        rw [readS, if_neg (by simp [hc]), if_pos hi]
      rw [hr]
      clear hr hla
      generalize lockI s t k = i at f3 hi hb hel ⊢
      generalize lockAt s i = x at hel ⊢
      generalize itemAt s.items k = y at f2 ⊢
      have hlt : i.toNat < s.locks.length := by omega
      have hil : i < s.locks.length := hb.2
      clear hc hok hs
      obtain ⟨a, b, c, d⟩ := s
      obtain ⟨t1, t2⟩ := t
      obtain ⟨u1, u2, u3, u4, u5, u6⟩ := x
      obtain ⟨y1, y2, y3⟩ := y
      simp only [stoC, txC, lkC, itC] at f1 p1 f2 p2 f3 p3 p6 hel hlt hil ⊢
      simp (implicitDefEqProofs := false) (maxSteps := 10000000) [ir_store_Read, stoD, stoC, txC, h1, h2, h3, x1, x2, x3, f1, p1, f2, p2, f3, p3]
      refine k_cut (ι := Empty) (fun x => nomatch x) ?_ (fun x => nomatch x)
      intro P hP
      cases u4
      · simp (implicitDefEqProofs := false) (maxSteps := 10000000) [ir_store_Read, stoD, stoC, txC, h3, x3, f3, p3, h6, x6, p6, own_F, hi, hel, hlt, hil]
      · simp (implicitDefEqProofs := false) (maxSteps := 10000000) [ir_store_Read, stoD, stoC, txC, h3, x3, f3, p3, h6, x6, p6, own_F, hi, hel, hlt, hil]
    · have f4 := contT_F s.over t
      have p4 := contT_pre (l := s.over) t hf.2.2.2
      have f5 := busy_F s t k false
      have p5 := busy_pre hf t k false
      have hr0 : readS s t k = if overB s t = true then (s0, 0, 0, 13) else if busyB s t k false = true then (s0, 0, 0, 11) else if s.locks.length = 24 then (s0, 0, 0, 8) else ({ s with locks := s.locks ++ [⟨t.1, t.2, k, false, 0, 0⟩], doubts := handD s.doubts t }, (itemAt s.items k).value, (itemAt s.items k).version, 0) := by
        rw [readS, if_neg (by simp [hc]), if_neg hi]
      rw [hr0]
      have ho : (s.over.any fun u => isTx u.1 u.2 t) = overB s t := rfl
      rw [ho] at f4
      generalize lockI s t k = i at f3 hi
      generalize overB s t = o at f4 ⊢
      generalize busyB s t k false = bz at f5 ⊢
      generalize itemAt s.items k = y at f2 ⊢
      have hfw : fewS ⟨s.items, s.locks ++ [⟨t.1, t.2, k, false, 0, 0⟩], s.doubts, s.over⟩ := ⟨hf.1, by have := hf'.2.1; simp only [List.length_append, List.length_singleton]; omega, hf.2.2.1, hf.2.2.2⟩
      have p7 := hand_pre t hfw hf'.2.2.1
      clear hr0 hc hok hs ho hb
      obtain ⟨a, b, c, d⟩ := s
      obtain ⟨t1, t2⟩ := t
      obtain ⟨y1, y2, y3⟩ := y
      have hbl : b.length ≤ 10000 := hf'.2.1
      have f7 := hand_F (t1, t2) (a.map itC) ((b ++ [(⟨t1, t2, k, false, 0, 0⟩ : Lk)]).map lkC) (d.map txC) c
      simp only [stoC, txC, itC, List.map_append, List.map_cons, List.map_nil, lkC] at f1 p1 f2 p2 f3 p3 p6 f4 p4 f5 p5 f7 p7 ⊢
      generalize handD c (t1, t2) = hd at f7 ⊢
      simp (implicitDefEqProofs := false) (maxSteps := 10000000) [ir_store_Read, stoD, stoC, txC, h1, h2, h3, x1, x2, x3, f1, p1, f2, p2, f3, p3]
      refine k_cut (ι := Unit) (fun _ => ⟨mkTm 88 0 [(2, .int .i64 k), (3, .own 3 0), (4, .own 4 0), (6, .own 6 0), (11, .own 11 0)], [(3, .box [.fz 3 (a.map itC), .fz 6 (b.map lkC), .fz 3 (c.map dbC), .fz 2 (d.map txC)]), (4, .box [.int .i64 t1, .int .i64 t2]), (6, .box [.nl 3, .nl 6, .nl 3, .nl 2]), (11, .box [.int .i64 y1, .int .i64 y2, .int .i64 y3])]⟩) ?_ ?_
      · intro P hP
        simp (implicitDefEqProofs := false) (maxSteps := 10000000) [h3, x3, f3, p3, hi]
        exact hP _ [] () (by simp (implicitDefEqProofs := false) (maxSteps := 10000000))
      rintro ⟨⟩
      simp only [ir_store_Read_r2]
      cases o
      · cases bz
        · simp only [Bool.false_eq_true, if_false]
          by_cases h24 : b.length = 24
          · have h24' : (b.length : Int) = 24 := by omega
            rw [if_pos h24]
            refine k_cut (ι := Empty) (fun x => nomatch x) ?_ (fun x => nomatch x)
            intro P hP
            simp (implicitDefEqProofs := false) (maxSteps := 10000000) [s0, h4, h5, x4, x5, f4, p4, f5, p5, h24']
          · have h24' : ¬ (b.length : Int) = 24 := by omega
            rw [if_neg h24]
            refine k_cut (ι := Unit) (fun _ => ⟨mkTm 88 0 [(2, .int .i64 k), (3, .own 3 0), (4, .own 4 0), (6, .own 6 0), (11, .own 11 0)], [(3, .box [.fz 3 (a.map itC), .fz 6 (b.map lkC), .fz 3 (c.map dbC), .fz 2 (d.map txC)]), (4, .box [.int .i64 t1, .int .i64 t2]), (6, .box [.nl 3, .nl 6, .nl 3, .nl 2]), (11, .box [.int .i64 y1, .int .i64 y2, .int .i64 y3])]⟩) ?_ ?_
            · intro P hP
              simp (implicitDefEqProofs := false) (maxSteps := 10000000) [h4, h5, x4, x5, f4, p4, f5, p5, h24']
              exact hP _ [] () (by simp (implicitDefEqProofs := false) (maxSteps := 10000000))
            rintro ⟨⟩
            simp (implicitDefEqProofs := false) (maxSteps := 10000000) [ir_store_Read_r1, h6, x6, p6, own_F]
            refine k_cut (ι := Unit) (fun _ => ⟨mkTm 88 0 [(4, .own 4 0), (6, .own 6 0), (11, .own 11 0), (13, .own 13 0)], [(4, .box [.int .i64 t1, .int .i64 t2]), (6, .box [.nl 3, .nl 6, .nl 3, .nl 2]), (11, .box [.int .i64 y1, .int .i64 y2, .int .i64 y3]), (13, .box [.row 200, .row 201, .row 202, .row 203]), (200, .row 3 (a.map itC)), (201, .row 6 (b.map lkC ++ [[.int .i64 t1, .int .i64 t2, .int .i64 k, .bool false, .int .i64 0, .int .i64 0]])), (202, .row 3 (c.map dbC)), (203, .row 2 (d.map txC))]⟩) ?_ ?_
            · intro P hP
              simp (implicitDefEqProofs := false) (maxSteps := 10000000)
              exact ⟨⟨by omega, by omega⟩, hP _ [(200, some 730000), (201, some 79), (202, some 730002), (203, some 730003)] () (by simp (implicitDefEqProofs := false) (maxSteps := 10000000))⟩
            rintro ⟨⟩
            simp (implicitDefEqProofs := false) (maxSteps := 10000000) [ir_store_Read_r0, ir_store_Read, h7, x7, p7, f7]
            rfl
        · refine k_cut (ι := Empty) (fun x => nomatch x) ?_ (fun x => nomatch x)
          intro P hP
          simp (implicitDefEqProofs := false) (maxSteps := 10000000) [s0, h4, h5, x4, x5, f4, p4, f5, p5]
      · refine k_cut (ι := Empty) (fun x => nomatch x) ?_ (fun x => nomatch x)
        intro P hP
        simp (implicitDefEqProofs := false) (maxSteps := 10000000) [s0, h4, x4, f4, p4]
  · have hr : readS s t k = (s0, 0, 0, callE s t k) := by rw [readS, if_pos hc]
    rw [hr]
    generalize callE s t k = e at hc f1
    obtain ⟨a, b, c, d⟩ := s
    obtain ⟨t1, t2⟩ := t
    simp only [stoC, txC] at f1 p1
    simp (implicitDefEqProofs := false) (maxSteps := 10000000) [ir_store_Read, stoD, stoC, txC, s0, h1, x1, f1, p1, hc]
end
end Go.Proofs.YtghehknnaifoeaaDoor
