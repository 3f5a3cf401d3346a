/-
  Stores: Write computes what the plain function beside it says. Conditions: those of its specification's 'pre', and that the functions that are called are what theirs say.
-/
import Derived.Test.YtghehknnaifoeaaDoorSt5
set_option linter.unusedVariables false
set_option linter.unusedSimpArgs false
namespace Go.Proofs.YtghehknnaifoeaaDoor
open Go Go.Vcg

def okVQ (v q : Int) : Prop := 0 ≤ v ∧ v ≤ 1073741824 ∧ 0 ≤ q ∧ q ≤ 1048576
instance (v q : Int) : Decidable (okVQ v q) := inferInstanceAs (Decidable (_ ∧ _))
def putL (l : List Lk) (i : Int) (x : Lk) : List Lk := if i < 0 then l ++ [x] else l.set i.toNat x
noncomputable def writeS (s : Sto) (t : Tx) (k v q : Int) : Sto × Int :=
  if callE s t k ≠ 0 then (s0, callE s t k)
  else if ¬ okVQ v q then (s0, 2)
  else if overB s t = true ∨ (0 ≤ lockI s t k ∧ q < (lockAt s (lockI s t k)).ask) then (s0, 13)
  else if busyB s t k true = true then (s0, 11)
  else if (lockI s t k < 0 ∧ s.locks.length = 24) ∨ (itemAt s.items k).version = 1048576 then (s0, 8)
  else ({ s with locks := putL s.locks (lockI s t k) ⟨t.1, t.2, k, true, v, q⟩, doubts := handD s.doubts t }, 0)
noncomputable def sp_Write : Sp := { pre := fun ds => ∃ (s : Sto) (t : Tx) (k v q : Int), ds = [stoD s, .agg (txC t), .int .i64 k, .int .i64 v, .int .i64 q] ∧ fewS' s, F := fun | [s, .agg t, .int _ k, .int _ v, .int _ q] => .tup [stoD (writeS (stoOf s) (txOf t) k v q).1, .int .i64 (writeS (stoOf s) (txOf t) k v q).2] | _ => .any }

section
variable {T : Tb}
attribute [local simp] k_seq k_block k_skip k_reg k_alt k_cond k_exit k_ret kf_nil kf_seq_n kf_seq_e kf_seq_r kf_blk_n kf_blk_e kf_blk_r kf_lp_n kf_lp_e kf_lp_r kf_cut_n kf_cut_e kf_cut_r mkTm VCops VCalt istep act gd applyE wrapD Opd.ev get_mk set_mk set_mk0 tget16 tset16 tget_0 tset_0 tget_1 tset_1 tget_2 tset_2 tget_3 tset_3 tget_4 tset_4 tget_5 tset_5 tget_6 tset_6 tget_7 tset_7 tget_8 tset_8 tget_9 tset_9 tget_10 tset_10 tget_11 tset_11 tget_12 tset_12 tget_13 tset_13 tget_14 tset_14 tget_15 tset_15 D.un D.gu gus IOp.opds binD fnPost getRes IRes.get oneRes D.out outL D.clos closL D.norow norowL D.lv lvL D.scal scalL D.cells D.cell D.cell' St.lk obPut obDel List.lookup cut pickD splice fillParts fillRows elem_cons newsOf D.pl D.forget forgetL Ob.forget forgetO eqCells sg leD leDL leOb apartK St.le D.keys keysL D.rows rowsL obKeys addKeys reach pos D.ren renL Ob.ren inM outM inObs outObs goneK apartN okNames_eq okNms obNms namesOK_nil namesOK_cons freeOK_nil freeOK_cons D.frz frzL Ob.frz frzO St.frz forgetLs dropObs putObs hcall freeOf keeps baseN shD isShift shMax k_bad VCopsG frz_nil actx actc cnum vwCut St.frzT St.opnT St.clsT D.opn opnL Ob.opn opnO VCou VCcx St.oneS D.objI D.objK scrL D.scr St.opnS St.clsS D.cellS D.fzs fzsL k_mrk k_mrq IOper.gh
set_option maxRecDepth 100000 in
set_option maxHeartbeats 8000000 in
theorem v_Write (h1 : T.sp n_store_call = some sp_call) (h2 : T.sp n_store_item = some sp_item) (h3 : T.sp n_store_lock = some sp_lock) (h4 : T.sp n_slices_Contains_reredos_api_Txn_reredos_api_Txn = some sp_ContT) (h5 : T.sp n_store_busy = some sp_busy) (h6 : T.sp n_store_own = some sp_own) (h7 : T.sp n_store_hand = some sp_hand) : Verified T ir_store_Write sp_Write := by
  refine Verified.mk ?_
  rintro ds ⟨s, t, k, v, q, rfl, hf'⟩
  have hf := fewS'_fewS hf'
  simp only [sp_Write, stoOf_stoD, txOf_txC]
  have x1 : sp_call.hx = none := rfl
  have x2 : sp_item.hx = none := rfl
  have x3 : sp_lock.hx = none := rfl
  have x4 : sp_ContT.hx = none := rfl
  have x5 : sp_busy.hx = none := rfl
  have x6 : sp_own.hx = some hs_own := rfl
  have x7 : sp_hand.hx = some hs_hand := rfl
  have f1 := call_F s t k
  have p1 := call_pre hf t k
  by_cases hc : callE s t k = 0
  · by_cases hvq : okVQ v q
    · obtain ⟨hok, _⟩ := callE_zero hc
      have hs := sortK_ok (okS_parts hok).1
      have f2 := item_F s k
      have p2 := item_pre hf hs k
      have f3 := lock_F s t k
      have p3 := lock_pre hf t k
      have f4 := contT_F s.over t
      have p4 := contT_pre (l := s.over) t hf.2.2.2
      have f5 := busy_F s t k true
      have p5 := busy_pre hf t k true
      have p6 := own_pre hf
      have hb := lockI_bounds s t k
      rw [hc] at f1
      have hr : writeS s t k v q = if overB s t = true ∨ (0 ≤ lockI s t k ∧ q < (lockAt s (lockI s t k)).ask) then (s0, 13) else if busyB s t k true = true then (s0, 11) else if (lockI s t k < 0 ∧ s.locks.length = 24) ∨ (itemAt s.items k).version = 1048576 then (s0, 8) else ({ s with locks := putL s.locks (lockI s t k) ⟨t.1, t.2, k, true, v, q⟩, doubts := handD s.doubts t }, 0) := by
        rw [writeS, if_neg (by simp [hc]), if_neg (by simpa using hvq)]
      rw [hr]
      clear hr
      have hel : elem (s.locks.map lkC) (lockI s t k).toNat = if h : (lockI s t k).toNat < s.locks.length then lkC (lockAt s (lockI s t k)) else [] := by
        by_cases h : (lockI s t k).toNat < s.locks.length
        · rw [dif_pos h, elem_map lkC s.locks _ h]
          congr 1
          simp [lockAt, List.getD, h]
        · rw [dif_neg h]
          simp [elem, List.getElem?_eq_none (show s.locks.length ≤ (lockI s t k).toNat by omega)]
      have ho : (s.over.any fun u => isTx u.1 u.2 t) = overB s t := rfl
      rw [ho] at f4
      have hpl : (putL s.locks (lockI s t k) ⟨t.1, t.2, k, true, v, q⟩).length ≤ 10001 := by
        have := hf'.2.1
        unfold putL
        split
        · rw [List.length_append, List.length_singleton]; omega
        · rw [List.length_set]; omega
      have hfw : fewS ⟨s.items, putL s.locks (lockI s t k) ⟨t.1, t.2, k, true, v, q⟩, s.doubts, s.over⟩ := ⟨hf.1, by simp only; omega, hf.2.2.1, hf.2.2.2⟩
      have p7 := hand_pre t hfw hf'.2.2.1
      have hpC : (putL s.locks (lockI s t k) ⟨t.1, t.2, k, true, v, q⟩).map lkC = if lockI s t k < 0 then s.locks.map lkC ++ [lkC ⟨t.1, t.2, k, true, v, q⟩] else (s.locks.map lkC).set (lockI s t k).toNat (lkC ⟨t.1, t.2, k, true, v, q⟩) := by
        unfold putL
        split
        · simp
        · rw [List.map_set]
      have hv : ¬ v < 0 ∧ ¬ 1073741824 < v ∧ ¬ q < 0 ∧ ¬ 1048576 < q := by obtain ⟨g1, g2, g3, g4⟩ := hvq; omega
      obtain ⟨v1, v2, v3, v4⟩ := hv
      clear hvq hc hok hs hfw
      obtain ⟨a, b, c, d⟩ := s
      obtain ⟨t1, t2⟩ := t
      have hbl : b.length ≤ 10000 := hf'.2.1
      simp only at hpC hpl hel hb
      generalize overB ⟨a, b, c, d⟩ (t1, t2) = o at f4 ⊢
      generalize busyB ⟨a, b, c, d⟩ (t1, t2) k true = bz at f5 ⊢
      generalize hy : itemAt (Sto.items ⟨a, b, c, d⟩) k = y at f2 ⊢
      obtain ⟨y1, y2, y3⟩ := y
      have f7 := hand_F (t1, t2) (a.map itC) ((putL b (lockI ⟨a, b, c, d⟩ (t1, t2) k) ⟨t1, t2, k, true, v, q⟩).map lkC) (d.map txC) c
      rw [hpC] at f7
      simp only at p7 ⊢
      rw [hpC] at p7
      generalize hU : putL b (lockI ⟨a, b, c, d⟩ (t1, t2) k) ⟨t1, t2, k, true, v, q⟩ = U at hpC ⊢
      generalize hX : lockAt ⟨a, b, c, d⟩ (lockI ⟨a, b, c, d⟩ (t1, t2) k) = X at hel ⊢
      generalize lockI ⟨a, b, c, d⟩ (t1, t2) k = i at f3 hb hel hpC f7 p7 ⊢
      obtain ⟨u1, u2, u3, u4, u5, u6⟩ := X
      clear hU hX hy hpl
      simp only [stoC, txC, itC, lkC] at f1 p1 f2 p2 f3 p3 f4 p4 f5 p5 p6 hel f7 p7 hpC ⊢
      generalize handD c (t1, t2) = hd at f7 ⊢
      simp (implicitDefEqProofs := false) (maxSteps := 10000000) [ir_store_Write, stoD, stoC, txC, h1, h3, x1, x3, f1, p1, f3, p3, v1, v2, v3, v4]
      cases o
      · by_cases hi : i < 0
        · have hi' : ¬ 0 ≤ i := by omega
          have hit : i.toNat = 0 := by omega
          rw [if_pos hi] at hpC f7 p7
          rw [hit] at hel
          rw [← hpC] at f7 p7
          cases bz
          · by_cases hy : y3 = 1048576
            · rcases Nat.eq_zero_or_pos b.length with hb0 | hb0
              · rw [dif_neg (by omega)] at hel
                refine k_cut (ι := Empty) (fun x => nomatch x) ?_ (fun x => nomatch x)
                intro P hP
                simp (implicitDefEqProofs := false) (maxSteps := 10000000) [s0, h2, h4, h5, x2, x4, x5, f2, p2, f4, p4, f5, p5, hi, hi', hit, hel, hy]
                exact fun p q => absurd p q
              · rw [dif_pos hb0] at hel
                refine k_cut (ι := Empty) (fun x => nomatch x) ?_ (fun x => nomatch x)
                intro P hP
                simp (implicitDefEqProofs := false) (maxSteps := 10000000) [s0, h2, h4, h5, x2, x4, x5, f2, p2, f4, p4, f5, p5, hi, hi', hit, hel, hy]
                exact fun p q => absurd p q
            · by_cases h24 : b.length = 24
              · have h24' : (b.length : Int) = 24 := by omega
                rw [dif_pos (by omega)] at hel
                refine k_cut (ι := Empty) (fun x => nomatch x) ?_ (fun x => nomatch x)
                intro P hP
                simp (implicitDefEqProofs := false) (maxSteps := 10000000) [s0, h2, h4, h5, x2, x4, x5, f2, p2, f4, p4, f5, p5, hi, hi', hit, hel, hy, h24', h24]
              · have h24' : ¬ (b.length : Int) = 24 := by omega
                rcases Nat.eq_zero_or_pos b.length with hb0 | hb0
                · rw [dif_neg (by omega)] at hel
                  refine k_cut (ι := Unit) (fun _ => ⟨mkTm 105 0 [(2, .int .i64 k), (3, .int .i64 v), (4, .int .i64 q), (5, .own 5 0), (6, .own 6 0), (10, .own 10 0), (13, .int .i64 i)], [(5, .box [.fz 3 (a.map itC), .fz 6 (b.map lkC), .fz 3 (c.map dbC), .fz 2 (d.map txC)]), (6, .box [.int .i64 t1, .int .i64 t2]), (10, .box [.nl 3, .nl 6, .nl 3, .nl 2])]⟩) ?_ ?_
                  · intro P hP
                    simp (implicitDefEqProofs := false) (maxSteps := 10000000) [h2, h4, h5, x2, x4, x5, f2, p2, f4, p4, f5, p5, hi, hi', hit, hel, hy, h24', h24]
                    exact hP _ [] () (by simp (implicitDefEqProofs := false) (maxSteps := 10000000))
                  rintro ⟨⟩
                  simp (implicitDefEqProofs := false) (maxSteps := 10000000) [ir_store_Write_r1, h6, x6, p6, own_F]
                  refine k_cut (ι := Unit) (fun _ => ⟨mkTm 105 0 [(6, .own 6 0), (10, .own 10 0), (14, .own 14 0)], [(6, .box [.int .i64 t1, .int .i64 t2]), (10, .box [.nl 3, .nl 6, .nl 3, .nl 2]), (14, .box [.row 200, .row 201, .row 202, .row 203]), (200, .row 3 (a.map itC)), (201, .row 6 (U.map lkC)), (202, .row 3 (c.map dbC)), (203, .row 2 (d.map txC))]⟩) ?_ ?_
                  · intro P hP
                    simp (implicitDefEqProofs := false) (maxSteps := 10000000) [hi, hi', hit, hel, hy, h24', h24]
                    exact ⟨⟨by omega, by omega⟩, hP _ [(200, some 840000), (201, some 95), (202, some 840002), (203, some 840003)] () (by simp (implicitDefEqProofs := false) (maxSteps := 10000000) [hpC])⟩
                  rintro ⟨⟩
                  simp (implicitDefEqProofs := false) (maxSteps := 10000000) [ir_store_Write_r0, ir_store_Write, h7, x7, p7, f7, hi, hi', hit, hel, hy, h24', h24]
                · rw [dif_pos hb0] at hel
                  refine k_cut (ι := Unit) (fun _ => ⟨mkTm 105 0 [(2, .int .i64 k), (3, .int .i64 v), (4, .int .i64 q), (5, .own 5 0), (6, .own 6 0), (10, .own 10 0), (13, .int .i64 i)], [(5, .box [.fz 3 (a.map itC), .fz 6 (b.map lkC), .fz 3 (c.map dbC), .fz 2 (d.map txC)]), (6, .box [.int .i64 t1, .int .i64 t2]), (10, .box [.nl 3, .nl 6, .nl 3, .nl 2])]⟩) ?_ ?_
                  · intro P hP
                    simp (implicitDefEqProofs := false) (maxSteps := 10000000) [h2, h4, h5, x2, x4, x5, f2, p2, f4, p4, f5, p5, hi, hi', hit, hel, hy, h24', h24]
                    exact hP _ [] () (by simp (implicitDefEqProofs := false) (maxSteps := 10000000))
                  rintro ⟨⟩
                  simp (implicitDefEqProofs := false) (maxSteps := 10000000) [ir_store_Write_r1, h6, x6, p6, own_F]
                  refine k_cut (ι := Unit) (fun _ => ⟨mkTm 105 0 [(6, .own 6 0), (10, .own 10 0), (14, .own 14 0)], [(6, .box [.int .i64 t1, .int .i64 t2]), (10, .box [.nl 3, .nl 6, .nl 3, .nl 2]), (14, .box [.row 200, .row 201, .row 202, .row 203]), (200, .row 3 (a.map itC)), (201, .row 6 (U.map lkC)), (202, .row 3 (c.map dbC)), (203, .row 2 (d.map txC))]⟩) ?_ ?_
                  · intro P hP
                    simp (implicitDefEqProofs := false) (maxSteps := 10000000) [hi, hi', hit, hel, hy, h24', h24]
                    exact ⟨⟨by omega, by omega⟩, hP _ [(200, some 840000), (201, some 95), (202, some 840002), (203, some 840003)] () (by simp (implicitDefEqProofs := false) (maxSteps := 10000000) [hpC])⟩
                  rintro ⟨⟩
                  simp (implicitDefEqProofs := false) (maxSteps := 10000000) [ir_store_Write_r0, ir_store_Write, h7, x7, p7, f7, hi, hi', hit, hel, hy, h24', h24]
          · rcases Nat.eq_zero_or_pos b.length with hb0 | hb0
            · rw [dif_neg (by omega)] at hel
              refine k_cut (ι := Empty) (fun x => nomatch x) ?_ (fun x => nomatch x)
              intro P hP
              simp (implicitDefEqProofs := false) (maxSteps := 10000000) [s0, h2, h4, h5, x2, x4, x5, f2, p2, f4, p4, f5, p5, hi, hi', hit, hel]
            · rw [dif_pos hb0] at hel
              refine k_cut (ι := Empty) (fun x => nomatch x) ?_ (fun x => nomatch x)
              intro P hP
              simp (implicitDefEqProofs := false) (maxSteps := 10000000) [s0, h2, h4, h5, x2, x4, x5, f2, p2, f4, p4, f5, p5, hi, hi', hit, hel]
        · have hi' : 0 ≤ i := by omega
          have hlt : i.toNat < b.length := by omega
          have hil : i < b.length := by omega
          rw [if_neg hi] at hpC f7 p7
          rw [dif_pos hlt] at hel
          rw [← hpC] at f7 p7
          by_cases hq : q < u6
          · refine k_cut (ι := Empty) (fun x => nomatch x) ?_ (fun x => nomatch x)
            intro P hP
            simp (implicitDefEqProofs := false) (maxSteps := 10000000) [s0, h2, h4, h5, x2, x4, x5, f2, p2, f4, p4, f5, p5, hi, hi', hel, hlt, hil, hq]
          · cases bz
            · by_cases hy : y3 = 1048576
              · refine k_cut (ι := Empty) (fun x => nomatch x) ?_ (fun x => nomatch x)
                intro P hP
                simp (implicitDefEqProofs := false) (maxSteps := 10000000) [s0, h2, h4, h5, x2, x4, x5, f2, p2, f4, p4, f5, p5, hi, hi', hel, hlt, hil, hq, hy]
              · refine k_cut (ι := Unit) (fun _ => ⟨mkTm 105 0 [(2, .int .i64 k), (3, .int .i64 v), (4, .int .i64 q), (5, .own 5 0), (6, .own 6 0), (10, .own 10 0), (13, .int .i64 i)], [(5, .box [.fz 3 (a.map itC), .fz 6 (b.map lkC), .fz 3 (c.map dbC), .fz 2 (d.map txC)]), (6, .box [.int .i64 t1, .int .i64 t2]), (10, .box [.nl 3, .nl 6, .nl 3, .nl 2])]⟩) ?_ ?_
                · intro P hP
                  simp (implicitDefEqProofs := false) (maxSteps := 10000000) [h2, h4, h5, x2, x4, x5, f2, p2, f4, p4, f5, p5, hi, hi', hel, hlt, hil, hq, hy]
                  exact hP _ [] () (by simp (implicitDefEqProofs := false) (maxSteps := 10000000))
                rintro ⟨⟩
                simp (implicitDefEqProofs := false) (maxSteps := 10000000) [ir_store_Write_r1, h6, x6, p6, own_F]
                refine k_cut (ι := Unit) (fun _ => ⟨mkTm 105 0 [(6, .own 6 0), (10, .own 10 0), (14, .own 14 0)], [(6, .box [.int .i64 t1, .int .i64 t2]), (10, .box [.nl 3, .nl 6, .nl 3, .nl 2]), (14, .box [.row 200, .row 201, .row 202, .row 203]), (200, .row 3 (a.map itC)), (201, .row 6 (U.map lkC)), (202, .row 3 (c.map dbC)), (203, .row 2 (d.map txC))]⟩) ?_ ?_
                · intro P hP
                  simp (implicitDefEqProofs := false) (maxSteps := 10000000) [hi, hi', hel, hlt, hil, hq, hy]
                  exact hP _ [(200, some 840000), (201, some 840001), (202, some 840002), (203, some 840003)] () (by simp (implicitDefEqProofs := false) (maxSteps := 10000000) [hpC])
                rintro ⟨⟩
                simp (implicitDefEqProofs := false) (maxSteps := 10000000) [ir_store_Write_r0, ir_store_Write, h7, x7, p7, f7, hi, hi', hel, hlt, hil, hq, hy]
            · refine k_cut (ι := Empty) (fun x => nomatch x) ?_ (fun x => nomatch x)
              intro P hP
              simp (implicitDefEqProofs := false) (maxSteps := 10000000) [s0, h2, h4, h5, x2, x4, x5, f2, p2, f4, p4, f5, p5, hi, hi', hel, hlt, hil, hq]
      · refine k_cut (ι := Empty) (fun x => nomatch x) ?_ (fun x => nomatch x)
        intro P hP
        simp (implicitDefEqProofs := false) (maxSteps := 10000000) [s0, h2, h4, h5, x2, x4, x5, f2, p2, f4, p4, f5, p5]
    · have hr : writeS s t k v q = (s0, 2) := by rw [writeS, if_neg (by simp [hc]), if_pos hvq]
      rw [hr]
      rw [hc] at f1
      have hv : v < 0 ∨ 1073741824 < v ∨ q < 0 ∨ 1048576 < q := by
        unfold okVQ at hvq; omega
      clear hvq hr hc
      obtain ⟨a, b, c, d⟩ := s
      obtain ⟨t1, t2⟩ := t
      simp only [stoC, txC] at f1 p1
      have hv1 : ¬ v < 0 → ¬ 1073741824 < v → ¬ q < 0 → 1048576 < q := by omega
      by_cases v1 : v < 0
      · simp (implicitDefEqProofs := false) (maxSteps := 10000000) [ir_store_Write, stoD, stoC, txC, s0, h1, x1, f1, p1, v1]
      · by_cases v2 : 1073741824 < v
        · simp (implicitDefEqProofs := false) (maxSteps := 10000000) [ir_store_Write, stoD, stoC, txC, s0, h1, x1, f1, p1, v1, v2]
        · by_cases v3 : q < 0
          · simp (implicitDefEqProofs := false) (maxSteps := 10000000) [ir_store_Write, stoD, stoC, txC, s0, h1, x1, f1, p1, v1, v2, v3]
          · have v4 := hv1 v1 v2 v3
            simp (implicitDefEqProofs := false) (maxSteps := 10000000) [ir_store_Write, stoD, stoC, txC, s0, h1, x1, f1, p1, v1, v2, v3, v4]
  · have hr : writeS s t k v q = (s0, callE s t k) := by rw [writeS, if_pos hc]
    rw [hr]
    generalize callE s t k = e at hc f1
    obtain ⟨a, b, c, d⟩ := s
    obtain ⟨t1, t2⟩ := t
    simp only [stoC, txC] at f1 p1
    simp (implicitDefEqProofs := false) (maxSteps := 10000000) [ir_store_Write, stoD, stoC, txC, s0, h1, x1, f1, p1, hc]
end
end Go.Proofs.YtghehknnaifoeaaDoor
