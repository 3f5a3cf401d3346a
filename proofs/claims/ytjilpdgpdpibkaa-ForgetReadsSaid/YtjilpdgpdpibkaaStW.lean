/-
  store.Forget computes what the plain function beside it says. Conditions: those of its specification's 'pre', and that the functions that are called are what theirs say.
-/
import Derived.Test.YtjilpdgpdpibkaaStI
set_option linter.unusedVariables false
set_option linter.unusedSimpArgs false
namespace Go.Proofs.Ytjilpdgpdpibkaa
open Go Go.Vcg

/-- What a crash leaves. -/
noncomputable def forgetS (s : Sto) : Sto × Int :=
  if okS s = false then (s0, 9) else (⟨s.items, s.locks.filter (fun x => !(!x.wr)), (s.doubts.filter (fun d => !(fgtG (s.locks.filter (fun x => !(!x.wr))) d))).map (bump 0), s.over⟩, 0)
noncomputable def sp_Forget : Sp := { pre := fun ds => ∃ s : Sto, ds = [stoD s] ∧ fewS' s, F := fun | [s] => .tup [stoD (forgetS (stoOf s)).1, .int .i64 (forgetS (stoOf s)).2] | _ => .any }
theorem forget_F (s : Sto) : sp_Forget.F [.agg (stoC s)] = .tup [.agg (stoC (forgetS s).1), .int .i64 (forgetS s).2] := by
  have e : D.agg (stoC s) = stoD s := rfl
  simp only [sp_Forget, e, stoOf_stoD]
  rfl
theorem forget_pre {s : Sto} (h : fewS' s) : sp_Forget.pre [.agg (stoC s)] = True := by
  simp only [sp_Forget, eq_iff_iff, iff_true]; exact ⟨s, rfl, h⟩
section
variable {T : Tb}
attribute [local simp] k_seq k_block k_skip k_reg k_alt k_cond k_exit k_ret kf_nil kf_seq_n kf_seq_e kf_seq_r kf_blk_n kf_blk_e kf_blk_r kf_lp_n kf_lp_e kf_lp_r kf_cut_n kf_cut_e kf_cut_r mkTm VCops VCalt istep act gd applyE wrapD Opd.ev get_mk set_mk set_mk0 tget16 tset16 tget_0 tset_0 tget_1 tset_1 tget_2 tset_2 tget_3 tset_3 tget_4 tset_4 tget_5 tset_5 tget_6 tset_6 tget_7 tset_7 tget_8 tset_8 tget_9 tset_9 tget_10 tset_10 tget_11 tset_11 tget_12 tset_12 tget_13 tset_13 tget_14 tset_14 tget_15 tset_15 D.un D.gu gus IOp.opds binD fnPost getRes IRes.get oneRes D.out outL D.clos closL D.norow norowL D.lv lvL D.scal scalL D.cells D.cell D.cell' St.lk obPut obDel List.lookup cut pickD splice fillParts fillRows elem_cons newsOf D.pl D.forget forgetL Ob.forget forgetO eqCells sg leD leDL leOb apartK St.le D.keys keysL D.rows rowsL obKeys addKeys reach pos D.ren renL Ob.ren inM outM inObs outObs goneK apartN okNames_eq okNms obNms namesOK_nil namesOK_cons freeOK_nil freeOK_cons D.frz frzL Ob.frz frzO St.frz forgetLs dropObs putObs hcall freeOf keeps baseN shD isShift shMax k_bad VCopsG frz_nil actx actc cnum vwCut St.frzT St.opnT St.clsT D.opn opnL Ob.opn opnO
set_option maxRecDepth 100000 in
set_option maxHeartbeats 8000000 in
theorem v_F2 (h1 : T.sp n_slices_ContainsFunc_reredos_api_Lock_reredos_api_Lock = some sp_ContL) : Verified T ir_store_Forget_2 sp_F2 := by
  refine Verified.mkx rfl ?_
  rintro ds ob ⟨⟨a, b, c⟩, L, its, ovs, rfl, rfl, hL⟩ R hR
  rw [F2_F, fgtG] at hR
  have x1 : sp_ContL.hx = none := rfl
  have f1 := contL_F (l := L) (CloL.left ⟨a, b, c⟩)
  have p1 := contL_pre (l := L) (CloL.left ⟨a, b, c⟩) hL
  simp only [n_store_Forget_2_1, dbC] at f1 p1
  simp only at hR
  generalize (L.any fun x => isTx x.site x.n (a, b)) = r at f1 hR
  simp (implicitDefEqProofs := false) (maxSteps := 10000000) [ir_store_Forget_2, dbC, h1, x1, f1, p1]
  exact hR _ [] (by simp (implicitDefEqProofs := false) (maxSteps := 10000000))
set_option maxRecDepth 100000 in
set_option maxHeartbeats 8000000 in
theorem v_Forget (h1 : T.sp n_store_Check = some sp_SCheck) (h2 : T.sp n_store_own = some sp_own) (h3 : T.sp n_slices_DeleteFunc_reredos_api_Lock_reredos_api_Lock = some sp_DelL) (h4 : T.sp n_slices_DeleteFunc_reredos_api_Doubt_reredos_api_Doubt = some sp_DelD) : Verified T ir_store_Forget sp_Forget := by
  refine Verified.mk ?_
  rintro ds ⟨s, rfl, hf'⟩
  have hf := fewS'_fewS hf'
  simp only [sp_Forget, stoOf_stoD]
  have x1 : sp_SCheck.hx = none := rfl
  have x2 : sp_own.hx = some hs_own := rfl
  have x3 : sp_DelL.hx = some hs_DelL := rfl
  have x4 : sp_DelD.hx = some hs_DelD := rfl
  have f1 := chk_F s
  have p1 := chk_pre hf
  have p2 := own_pre hf
  cases hok : okS s
  · have hr : forgetS s = (s0, 9) := by rw [forgetS, if_pos hok]
    rw [hr]
    rw [hok] at f1
    simp only [Bool.false_eq_true, if_false] at f1
    clear hr hok
    obtain ⟨a, b, c, d⟩ := s
    simp only [stoC] at f1 p1
    simp (implicitDefEqProofs := false) (maxSteps := 10000000) [ir_store_Forget, stoD, stoC, s0, h1, x1, f1, p1]
  · rw [hok] at f1
    simp only [if_true] at f1
    have hO := (okS_iff s).1 hok
    have hr : forgetS s = (⟨s.items, s.locks.filter (fun x => !(!x.wr)), (s.doubts.filter (fun d => !(fgtG (s.locks.filter (fun x => !(!x.wr))) d))).map (bump 0), s.over⟩, 0) := by rw [forgetS, if_neg (by simp [hok])]
    rw [hr]
    have f3 := DelL_F s.locks CloL.reads
    have p3 := DelL_pre (l := s.locks) CloL.reads hf'.2.1
    simp only [n_store_Forget_1] at f3 p3
    have hLl : (s.locks.filter (fun x => !(!x.wr))).length ≤ 100000 := Nat.le_trans (List.length_filter_le _ _) hf.2.1
    have f4 := DelB_F s.doubts (s.locks.filter (fun x => !(!x.wr))) (s.items.map itC) (s.over.map txC)
    have p4 := DelB_pre (l := s.doubts) hf'.2.2.1 hLl (s.items.map itC) (s.over.map txC)
    have hage : ∀ x ∈ s.doubts.filter (fun d => !(fgtG (s.locks.filter (fun x => !(!x.wr))) d)), 0 ≤ x.age := fun x hx => (okDb_iff.1 (hO.doubts x (List.mem_filter.1 hx).1)).2.1
    have hDl : (s.doubts.filter (fun d => !(fgtG (s.locks.filter (fun x => !(!x.wr))) d))).length ≤ 10000 := Nat.le_trans (List.length_filter_le _ _) hf'.2.2.1
    have f5 := DelC_F (s.locks.filter (fun x => !(!x.wr))) (s.items.map itC) (s.over.map txC)
    have p5 := DelC_pre (s.locks.filter (fun x => !(!x.wr))) (s.items.map itC) (s.over.map txC)
    have hl0 : s.doubts = [] → s.doubts.filter (fun d => !(fgtG (s.locks.filter (fun x => !(!x.wr))) d)) = [] := fun h => by rw [h]; rfl
    generalize s.doubts.filter (fun d => !(fgtG (s.locks.filter (fun x => !(!x.wr))) d)) = l at f4 hage hDl hl0
    generalize s.locks.filter (fun x => !(!x.wr)) = L at f3 f4 p4 f5 p5 hLl
    clear hr hok hO
    obtain ⟨a, b, c, d⟩ := s
    simp only [stoC] at f1 p1 p2 f3 p3 f4 p4 hl0
    simp (implicitDefEqProofs := false) (maxSteps := 10000000) [ir_store_Forget, stoD, stoC, h1, h2, h3, h4, x1, x2, x3, x4, f1, p1, p2, own_F, f3, p3, f4, p4, f5, p5]
    refine ⟨fun hc0 => ?_, fun m hm => ⟨fun x hx y hy => ?_, ?_⟩⟩
    · have hl0' := hl0 hc0
      subst hl0'
      subst hc0
      simp (implicitDefEqProofs := false) (maxSteps := 10000000) [h4, x4, f5, p5]
      refine k_loop (ι := Unit) (fun _ => ⟨mkTm 37 0 [(2, .own 2 0), (3, .int .i64 0), (5, .own 5 0), (26, .int .i64 0), (27, .int .i64 0)], [(2, .box [.nl 3, .nl 6, .nl 3, .nl 2]), (5, .box [.row 200, .fz 6 (L.map lkC), .fz 3 [], .row 203]), (200, .row 3 (a.map itC)), (203, .row 2 (d.map txC))]⟩)
        (fun _ => 0) [(200, some 150000), (203, some 150003)] () (by simp (implicitDefEqProofs := false) (maxSteps := 10000000)) ?_
      rintro _ Q hQ
      clear hQ
      simp (implicitDefEqProofs := false) (maxSteps := 10000000) [ir_store_Forget_b0, ir_store_Forget_r1]
      all_goals exact rfl
    · simp only [dbC, List.mem_cons, List.mem_nil_iff, or_false] at hy
      rcases hy with rfl | rfl | rfl <;> rfl
    refine k_loop (ι := {j : Nat // j ≤ l.length}) (fun x => ⟨mkTm 37 0 [(2, .own 2 0), (3, .int .i64 0), (5, .own 5 0), (26, .int .i64 l.length), (27, .int .i64 x.1)], [(2, .box [.nl 3, .nl 6, .nl 3, .nl 2]), (5, .box [.row 200, .fz 6 (L.map lkC), .row 202, .row 203]), (200, .row 3 (a.map itC)), (202, .row 3 ((agedTo 0 l x.1).map dbC)), (203, .row 2 (d.map txC))]⟩)
      (fun x => l.length - x.1) [(200, some 150000), (202, some 230000), (203, some 150003)] ⟨0, by omega⟩ (by simp (implicitDefEqProofs := false) (maxSteps := 10000000) [agedTo_zero]) ?_
    rintro ⟨j, hj⟩ P hQ
    by_cases hjl : j < l.length
    · have hjl' : (j : Int) < l.length := by omega
      have hjA : j < (agedTo 0 l j).length := by rw [length_agedTo]; exact hjl
      have hel := elem_map dbC (agedTo 0 l j) j hjA
      rw [agedTo_get 0 l j hjl] at hel
      have hset := agedTo_set 0 l j hjl
      have hlA := length_agedTo 0 l j
      have hage' := hage _ (List.getElem_mem hjl)
      have hsetC : (agedTo 0 l (j + 1)).map dbC = ((agedTo 0 l j).map dbC).set j (dbC (bump 0 l[j])) := by rw [← hset, List.map_set]
      generalize l[j] = x at hel hset hsetC hage'
      have hes : ∀ x, elem (((agedTo 0 l j).map dbC).set j x) j = x := fun x => by simp [elem, List.getD, hlA, hjl]
      obtain ⟨u1, u2, u3⟩ := x
      simp only at hage'
      have hb : bump 0 ⟨u1, u2, u3⟩ = ⟨u1, u2, 0⟩ := by
        rw [bump, if_pos (by simp only; omega)]
      rw [hb] at hsetC
      simp only [dbC] at hel hsetC
      simp (implicitDefEqProofs := false) (maxSteps := 10000000) [ir_store_Forget_b0, hjl', hjl, hlA, hel, hes]
      exact ⟨by simp only [inR]; omega, hQ _ [] ⟨j + 1, by omega⟩ (by simp (implicitDefEqProofs := false) (maxSteps := 10000000) [hsetC]) (by simp only; omega)⟩
    · have hjl2 : j = l.length := by omega
      subst hjl2
      simp (implicitDefEqProofs := false) (maxSteps := 10000000) [ir_store_Forget_b0, ir_store_Forget_r1, agedTo_all, stoD, stoC]
end
end Go.Proofs.Ytjilpdgpdpibkaa
