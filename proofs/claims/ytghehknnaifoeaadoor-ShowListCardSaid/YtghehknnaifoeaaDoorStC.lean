/-
  store.End computes endS. Conditions: those of its specification's 'pre', and that the functions that are called are what theirs say.
-/
import Derived.Test.YtghehknnaifoeaaDoorStB
set_option linter.unusedVariables false
set_option linter.unusedSimpArgs false
namespace Go.Proofs.YtghehknnaifoeaaDoor
open Go Go.Vcg

section
variable {T : Tb}
attribute [local simp] k_seq k_block k_skip k_reg k_alt k_cond k_exit k_ret kf_nil kf_seq_n kf_seq_e kf_seq_r kf_blk_n kf_blk_e kf_blk_r kf_lp_n kf_lp_e kf_lp_r kf_cut_n kf_cut_e kf_cut_r mkTm VCops VCalt istep act gd applyE wrapD Opd.ev get_mk set_mk set_mk0 tget16 tset16 tget_0 tset_0 tget_1 tset_1 tget_2 tset_2 tget_3 tset_3 tget_4 tset_4 tget_5 tset_5 tget_6 tset_6 tget_7 tset_7 tget_8 tset_8 tget_9 tset_9 tget_10 tset_10 tget_11 tset_11 tget_12 tset_12 tget_13 tset_13 tget_14 tset_14 tget_15 tset_15 D.un D.gu gus IOp.opds binD fnPost getRes IRes.get oneRes D.out outL D.clos closL D.norow norowL D.lv lvL D.scal scalL D.cells D.cell D.cell' St.lk obPut obDel List.lookup cut pickD splice fillParts fillRows elem_cons newsOf D.pl D.forget forgetL Ob.forget forgetO eqCells sg leD leDL leOb apartK St.le D.keys keysL D.rows rowsL obKeys addKeys reach pos D.ren renL Ob.ren inM outM inObs outObs goneK apartN okNames_eq okNms obNms namesOK_nil namesOK_cons freeOK_nil freeOK_cons D.frz frzL Ob.frz frzO St.frz forgetLs dropObs putObs hcall freeOf keeps baseN shD isShift shMax k_bad VCopsG frz_nil actx actc cnum vwCut St.frzT St.opnT St.clsT D.opn opnL Ob.opn opnO VCou VCcx St.oneS D.objI D.objK scrL D.scr St.opnS St.clsS D.cellS D.fzs fzsL k_mrk k_mrq IOper.gh
set_option maxRecDepth 100000 in
set_option maxHeartbeats 16000000 in
theorem v_End (h1 : T.sp n_store_call = some sp_call) (h2 : T.sp n_store_own = some sp_own) (h3 : T.sp n_store_at = some sp_at) (h4 : T.sp n_slices_Insert_reredos_api_Item_reredos_api_Item = some sp_Ins) (h5 : T.sp n_slices_DeleteFunc_reredos_api_Lock_reredos_api_Lock = some sp_DelL) (h6 : T.sp n_slices_DeleteFunc_reredos_api_Doubt_reredos_api_Doubt = some sp_DelD) (h7 : T.sp n_slices_Contains_reredos_api_Txn_reredos_api_Txn = some sp_ContT) : Verified T ir_store_End sp_End := by
  refine Verified.mk ?_
  rintro ds ⟨s, ⟨t1, t2⟩, yes, rfl, hf'⟩
  have hf := fewS'_fewS hf'
  simp only [sp_End, stoOf_stoD, txOf_txC]
  have x1 : sp_call.hx = none := rfl
  have x2 : sp_own.hx = some hs_own := rfl
  have x3 : sp_at.hx = none := rfl
  have x4 : sp_Ins.hx = some hs_Ins := rfl
  have x5 : sp_DelL.hx = some hs_DelL := rfl
  have x6 : sp_DelD.hx = some hs_DelD := rfl
  have x7 : sp_ContT.hx = none := rfl
  have f1 := call_F s (t1, t2) 0
  have p1 := call_pre hf (t1, t2) 0
  by_cases hc : callE s (t1, t2) 0 = 0
  · obtain ⟨hok, _⟩ := callE_zero hc
    have hs := sortK_ok (okS_parts hok).1
    have hv := verLe_ok (okS_parts hok).1
    rw [hc] at f1
    have hr : endS s (t1, t2) yes = (⟨endIts (t1, t2) yes s.locks s.items, s.locks.filter (fun x => !isTx x.site x.n (t1, t2)), s.doubts.filter (fun x => !isTx x.site x.n (t1, t2)), overL s.over (t1, t2)⟩, 0) := by rw [endS, if_neg (by simp [hc])]
    rw [hr]
    clear hr
    have p2 := own_pre hf
    obtain ⟨a, l, c, d⟩ := s
    simp only [stoC, txC] at f1 p1 p2 hs hv ⊢
    have hl : l.length ≤ 10000 := hf'.2.1
    have ha : a.length ≤ 10000 := hf'.1
    have hE := endIts_spec hs hv (t1, t2) yes l
    simp (implicitDefEqProofs := false) (maxSteps := 10000000) [ir_store_End, stoD, stoC, txC, h1, h2, x1, x2, f1, p1, p2, own_F]
    refine k_loop (ι := {j : Nat // j ≤ l.length}) (fun x => ⟨mkTm 101 0 [(2, .bool yes), (4, .own 4 0), (6, .own 6 0), (7, .int .i64 0), (9, .own 9 0), (24, .fz 6 (l.map lkC)), (25, .int .i64 l.length), (26, .int .i64 x.1)], [(4, .box [.int .i64 t1, .int .i64 t2]), (6, .box [.nl 3, .nl 6, .nl 3, .nl 2]), (9, .box [.row 200, .row 201, .row 202, .row 203]), (200, .row 3 ((endIts (t1, t2) yes (l.take x.1) a).map itC)), (201, .row 6 (l.map lkC)), (202, .row 3 (c.map dbC)), (203, .row 2 (d.map txC))]⟩)
      (fun x => l.length - x.1) [(200, some 230000), (201, some 230001), (202, some 230002), (203, some 230003)] ⟨0, by omega⟩ (by simp (implicitDefEqProofs := false) (maxSteps := 10000000) [endIts]) ?_
    rintro ⟨j, hj⟩ P hQ
    by_cases hjl : j < l.length
    · have hjl' : (j : Int) < l.length := by omega
      have hel := elem_map lkC l j hjl
      have hst := endIts_succ (t1, t2) yes hjl a
      obtain ⟨hs1, hv1, hl1⟩ := hE j (by omega)
      generalize l[j] = x at hel hst
      generalize endIts (t1, t2) yes (l.take j) a = its at hst hs1 hv1 hl1
      obtain ⟨a1, a2, k, w, v, q⟩ := x
      simp only [lkC] at hel
      by_cases e1 : a1 = t1 ∧ a2 = t2 ∧ w = true ∧ yes = true
      · obtain ⟨rfl, rfl, rfl, rfl⟩ := e1
        have hsx : stepE (a1, a2) true its ⟨a1, a2, k, true, v, q⟩ = putIt its k v := by simp [stepE, isTx]
        rw [hsx] at hst
        obtain ⟨w1, w2, w3, w4, w5⟩ := withK_spec hs1 k
        have hvw := verLe_with (by omega) hv1 k
        have f3 := at_F its k
        have p3 := at_pre (l := its) (k := k) hs1 (by omega)
        obtain ⟨b1, -, -⟩ := posI_spec hs1 k
        have hgo : ∀ s', (∃ σ, St.le σ s' ⟨mkTm 101 0 [(2, .bool true), (4, .own 4 0), (6, .own 6 0), (7, .int .i64 0), (9, .own 9 0), (24, .fz 6 (l.map lkC)), (25, .int .i64 l.length), (26, .int .i64 (j + 1 : Nat))], [(4, .box [.int .i64 a1, .int .i64 a2]), (6, .box [.nl 3, .nl 6, .nl 3, .nl 2]), (9, .box [.row 200, .row 201, .row 202, .row 203]), (200, .row 3 ((putIt its k v).map itC)), (201, .row 6 (l.map lkC)), (202, .row 3 (c.map dbC)), (203, .row 2 (d.map txC))]⟩) → P s' := by
          rintro s' ⟨σ, hs'⟩
          refine hQ s' σ ⟨j + 1, by omega⟩ ?_ (by simp only; omega)
          simp only [hst]
          exact hs'
        clear hQ
        have hW : (withK its k).length = ((withK its k).map itC).length := by simp
        have hely := elem_map itC (withK its k) _ w2
        have hvy := hvw _ (List.getElem_mem w2)
        have hput : (putIt its k v).map itC = ((withK its k).map itC).set (posI its k) [.int .i64 ((withK its k)[posI its k]).key, .int .i64 v, .int .i64 (((withK its k)[posI its k]).version + 1)] := by
          rw [putIt, putAt, List.map_set]
          simp only [List.getD, List.getElem?_eq_getElem w2, Option.getD_some, itC]
        have hes : ∀ X, elem (((withK its k).map itC).set (posI its k) X) (posI its k) = X := fun X => by simp [elem, List.getD, w2]
        generalize (withK its k)[posI its k] = y at hely hvy hput
        rw [hput] at hgo
        obtain ⟨y1, y2, y3⟩ := y
        simp only [itC] at hely hvy hgo
        cases hk : hasK its k
        · have hwk : withK its k = insI its (posI its k) ⟨k, 0, 0⟩ := by rw [withK, hk]; rfl
          rw [hwk] at hely hgo hes w2
          rw [hk] at f3
          have f4 := Ins_F its (posI its k) ⟨k, 0, 0⟩
          have p4 := Ins_pre (x := ⟨k, 0, 0⟩) b1 (show its.length ≤ 100000 by omega)
          have hil : (insI its (posI its k) ⟨k, 0, 0⟩).length = its.length + 1 := insI_length _ b1
          simp only [itC] at f4 p4
          generalize posI its k = p at f3 f4 p4 hely hgo hes w2 hil b1
          generalize insI its p ⟨k, 0, 0⟩ = W at f4 hely hgo hes w2 hil
          simp (implicitDefEqProofs := false) (maxSteps := 10000000) [ir_store_End_b0, hjl', hjl, hel, h3, x3, f3, p3, h4, x4, f4, p4, hely, hes, w2]
          exact ⟨by simp only [inR]; omega, by simp only [inR]; omega, hgo _ ⟨[(200, some 610000)], by simp (implicitDefEqProofs := false) (maxSteps := 10000000)⟩⟩
        · have hwk : withK its k = its := by rw [withK, if_pos hk]
          rw [hwk] at hely hgo hes w2
          rw [hk] at f3
          generalize posI its k = p at f3 hely hgo hes w2 b1
          simp (implicitDefEqProofs := false) (maxSteps := 10000000) [ir_store_End_b0, hjl', hjl, hel, h3, x3, f3, p3, hely, hes, w2]
          exact ⟨by simp only [inR]; omega, by simp only [inR]; omega, hgo _ ⟨[], by simp (implicitDefEqProofs := false) (maxSteps := 10000000)⟩⟩
      · have hsx : stepE (t1, t2) yes its ⟨a1, a2, k, w, v, q⟩ = its := by
          rw [stepE, if_neg]
          intro hh
          simp [isTx] at hh
          exact e1 ⟨hh.1.1.1, hh.1.1.2, hh.1.2, hh.2⟩
        rw [hsx] at hst
        have hgo : ∀ s', (∃ σ, St.le σ s' ⟨mkTm 101 0 [(2, .bool yes), (4, .own 4 0), (6, .own 6 0), (7, .int .i64 0), (9, .own 9 0), (24, .fz 6 (l.map lkC)), (25, .int .i64 l.length), (26, .int .i64 (j + 1 : Nat))], [(4, .box [.int .i64 t1, .int .i64 t2]), (6, .box [.nl 3, .nl 6, .nl 3, .nl 2]), (9, .box [.row 200, .row 201, .row 202, .row 203]), (200, .row 3 (its.map itC)), (201, .row 6 (l.map lkC)), (202, .row 3 (c.map dbC)), (203, .row 2 (d.map txC))]⟩) → P s' := by
          rintro s' ⟨σ, hs'⟩
          refine hQ s' σ ⟨j + 1, by omega⟩ ?_ (by simp only; omega)
          simp only [hst]
          exact hs'
        clear hQ
        have hb : (yes = false ∨ w = false) ∨ ¬ (a1 = t1 ∧ a2 = t2) := by
          cases yes <;> cases w <;> simp_all
        simp (implicitDefEqProofs := false) (maxSteps := 10000000) [ir_store_End_b0, hjl', hjl, hel]
        exact ⟨fun _ => ⟨by simp only [inR]; omega, hgo _ ⟨[], by simp (implicitDefEqProofs := false) (maxSteps := 10000000)⟩⟩, fun q1 q2 q3 q4 => absurd ⟨q1, q2, q3, q4⟩ e1⟩
    · obtain rfl : j = l.length := by omega
      simp only [List.take_length]
      generalize endIts (t1, t2) yes l a = its
      have cL := CloL.over (t1, t2)
      have cD := CloD.over (t1, t2)
      have f5 := DelL_F l cL
      have p5 := DelL_pre (l := l) cL hl
      have f6 := DelD_F c cD
      have p6 := DelD_pre (l := c) cD hf'.2.2.1
      have f7 := contT_F d (t1, t2)
      have p7 := contT_pre (l := d) (t1, t2) hf.2.2.2
      have hd : d.length ≤ 10000 := hf'.2.2.2
      simp only [txC, n_store_End_1, n_store_End_2] at f5 p5 f6 p6 f7 p7
      generalize (l.filter fun x => !isTx x.site x.n (t1, t2)) = l2 at f5
      generalize (c.filter fun x => !isTx x.site x.n (t1, t2)) = c2 at f6
      cases ho : (d.any fun u => isTx u.1 u.2 (t1, t2))
      · have hov : overL d (t1, t2) = d ++ [(t1, t2)] := by rw [overL, ho]; rfl
        rw [ho] at f7
        rw [hov]
        simp (implicitDefEqProofs := false) (maxSteps := 10000000) [ir_store_End_b0, ir_store_End_r1, h5, h6, h7, x5, x6, x7, f5, f6, f7, p5, p6, p7, txC]
        omega
      · have hov : overL d (t1, t2) = d := by rw [overL, if_pos ho]
        rw [ho] at f7
        rw [hov]
        simp (implicitDefEqProofs := false) (maxSteps := 10000000) [ir_store_End_b0, ir_store_End_r1, h5, h6, h7, x5, x6, x7, f5, f6, f7, p5, p6, p7, txC]
  · have hr : endS s (t1, t2) yes = (s0, callE s (t1, t2) 0) := by rw [endS, if_pos hc]
    rw [hr]
    obtain ⟨a, b, c, d⟩ := s
    simp only [stoC, txC] at f1 p1
    simp (implicitDefEqProofs := false) (maxSteps := 10000000) [ir_store_End, stoD, stoC, txC, s0, h1, x1, f1, p1, hc]
end
end Go.Proofs.YtghehknnaifoeaaDoor
