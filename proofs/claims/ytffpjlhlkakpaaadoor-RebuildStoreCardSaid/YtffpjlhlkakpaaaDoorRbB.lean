/-
  recover: what ends, what one record does, Rebuild, for records of three kinds. Conditions: those of its specification's 'pre', and that the functions that are called are what theirs say.
-/
import Derived.Test.YtffpjlhlkakpaaaDoorRbA
set_option linter.unusedVariables false
set_option linter.unusedSimpArgs false
namespace Go.Proofs.YtffpjlhlkakpaaaDoor
open Go Go.Vcg

/-- What comes back. -/
structure Mem where
  s : Sto
  next : Int
/-- Cells that say a store. -/
def isCs (x : List D) (b : Sto) : Prop := x = stoC b ∨ (x = [.nl 3, .nl 6, .nl 3, .nl 2] ∧ b = s0)
theorem isCs_of {x : List D} {b : Sto} (h : isCs x b) : stoOf (.agg x) = b := by
  rcases h with rfl | ⟨rfl, rfl⟩
  · exact stoOf_stoD b
  · rfl
noncomputable def memStep (m : Mem) (r : Rc) : Mem := if r.kind = 1 then ⟨(writeS m.s (r.site, r.n) r.key r.value r.ask).1, m.next⟩ else if r.kind = 2 then ⟨(endS m.s (r.site, r.n) r.yes).1, m.next⟩ else ⟨m.s, max m.next (r.n + 1)⟩
def memOk (m : Mem) (r : Rc) : Prop := fewS' m.s ∧ r.sites = [] ∧ 0 ≤ r.n ∧ r.n ≤ 1048576 ∧ ((r.kind = 1 ∧ (writeS m.s (r.site, r.n) r.key r.value r.ask).2 = 0) ∨ (r.kind = 2 ∧ (endS m.s (r.site, r.n) r.yes).2 = 0) ∨ (r.kind = 5 ∧ r.site = 0))
noncomputable def hs_mend : HSp := {
  pre := fun ds ob => ∃ (x : List D) (s : Sto) (next : Int) (t : Tx) (yes : Bool), ds = [.own 1000000000 0, .agg (txC t), .bool yes] ∧ ob = [(1000000000, .box ([.int .i64 0] ++ x ++ [.int .i64 next, .nl 6, .nl 4]))] ∧ isCs x s ∧ fewS' s ∧ (endS s t yes).2 = 0
  F := fun ds ob => match ds, ob with
    | [_, .agg t, .bool yes], [(_, .box [_, a, b, c, d, n, _, _])] => (.tup [], [(1000000000, .box ([.int .i64 0] ++ stoC (endS (stoOf (.agg [a, b, c, d])) (txOf t) yes).1 ++ [n, .nl 6, .nl 4]))])
    | _, _ => (.any, []) }
noncomputable def sp_mend : Sp := { pre := fun _ => True, F := fun _ => .any, hx := some hs_mend }
theorem mend_F {x : List D} {s : Sto} (h : isCs x s) (next : Int) (t : Tx) (yes : Bool) : hs_mend.F [.own 1000000000 0, .agg (txC t), .bool yes] [(1000000000, .box ([.int .i64 0] ++ x ++ [.int .i64 next, .nl 6, .nl 4]))] = (.tup [], [(1000000000, .box ([.int .i64 0] ++ stoC (endS s t yes).1 ++ [.int .i64 next, .nl 6, .nl 4]))]) := by
  have e := isCs_of h
  rcases h with rfl | ⟨rfl, rfl⟩
  · simp only [stoC, List.singleton_append, List.cons_append, List.nil_append, hs_mend, txOf_txC] at e ⊢
    rw [e]
  · simp only [stoC, List.singleton_append, List.cons_append, List.nil_append, hs_mend, txOf_txC] at e ⊢
    rw [e]
theorem mend_pre {x : List D} {s : Sto} (h : isCs x s) (hf : fewS' s) (next : Int) {t : Tx} {yes : Bool} (he : (endS s t yes).2 = 0) : hs_mend.pre [.own 1000000000 0, .agg (txC t), .bool yes] [(1000000000, .box ([.int .i64 0] ++ x ++ [.int .i64 next, .nl 6, .nl 4]))] = True := by
  simp only [hs_mend, eq_iff_iff, iff_true]; exact ⟨x, s, next, t, yes, rfl, rfl, h, hf, he⟩
noncomputable def hs_mone : HSp := {
  pre := fun ds ob => ∃ (x : List D) (m : Mem) (r : Rc), ds = [.own 1000000000 0, .agg (recC r)] ∧ ob = [(1000000000, .box ([.int .i64 0] ++ x ++ [.int .i64 m.next, .nl 6, .nl 4]))] ∧ isCs x m.s ∧ memOk m r
  F := fun ds ob => match ds, ob with
    | [_, .agg r], [(_, .box [_, a, b, c, d, .int _ n, _, _])] => (.tup [], [(1000000000, .box ([.int .i64 0] ++ (if (recL r).kind = 5 then [a, b, c, d] else stoC (memStep ⟨stoOf (.agg [a, b, c, d]), n⟩ (recL r)).s) ++ [.int .i64 (memStep ⟨stoOf (.agg [a, b, c, d]), n⟩ (recL r)).next, .nl 6, .nl 4]))])
    | _, _ => (.any, []) }
noncomputable def sp_mone : Sp := { pre := fun _ => True, F := fun _ => .any, hx := some hs_mone }
theorem recL_recC (r : Rc) : recL (recC r) = r := recOf_recD r
theorem mone_F {x : List D} {m : Mem} (h : isCs x m.s) (r : Rc) : hs_mone.F [.own 1000000000 0, .agg (recC r)] [(1000000000, .box ([.int .i64 0] ++ x ++ [.int .i64 m.next, .nl 6, .nl 4]))] = (.tup [], [(1000000000, .box ([.int .i64 0] ++ (if r.kind = 5 then x else stoC (memStep m r).s) ++ [.int .i64 (memStep m r).next, .nl 6, .nl 4]))]) := by
  have e := isCs_of h
  obtain ⟨s, next⟩ := m
  simp only at h e
  rcases h with rfl | ⟨rfl, rfl⟩
  · simp only [stoC, List.singleton_append, List.cons_append, List.nil_append, hs_mone, recL_recC] at e ⊢
    rw [e]
  · simp only [List.singleton_append, List.cons_append, List.nil_append, hs_mone, recL_recC] at e ⊢
    rw [e]
theorem mone_pre {x : List D} {m : Mem} (h : isCs x m.s) {r : Rc} (hr : memOk m r) : hs_mone.pre [.own 1000000000 0, .agg (recC r)] [(1000000000, .box ([.int .i64 0] ++ x ++ [.int .i64 m.next, .nl 6, .nl 4]))] = True := by
  simp only [hs_mone, eq_iff_iff, iff_true]; exact ⟨x, m, r, rfl, rfl, h, hr⟩
section
variable {T : Tb}
attribute [local simp] k_seq k_block k_skip k_reg k_alt k_cond k_exit k_ret kf_nil kf_seq_n kf_seq_e kf_seq_r kf_blk_n kf_blk_e kf_blk_r kf_lp_n kf_lp_e kf_lp_r kf_cut_n kf_cut_e kf_cut_r mkTm VCops VCalt istep act gd applyE wrapD Opd.ev get_mk set_mk set_mk0 tget16 tset16 tget_0 tset_0 tget_1 tset_1 tget_2 tset_2 tget_3 tset_3 tget_4 tset_4 tget_5 tset_5 tget_6 tset_6 tget_7 tset_7 tget_8 tset_8 tget_9 tset_9 tget_10 tset_10 tget_11 tset_11 tget_12 tset_12 tget_13 tset_13 tget_14 tset_14 tget_15 tset_15 D.un D.gu gus IOp.opds binD fnPost getRes IRes.get oneRes D.out outL D.clos closL D.norow norowL D.lv lvL D.scal scalL D.cells D.cell D.cell' St.lk obPut obDel List.lookup cut pickD splice fillParts fillRows elem_cons newsOf D.pl D.forget forgetL Ob.forget forgetO eqCells sg leD leDL leOb apartK St.le D.keys keysL D.rows rowsL obKeys addKeys reach pos D.ren renL Ob.ren inM outM inObs outObs goneK apartN okNames_eq okNms obNms namesOK_nil namesOK_cons freeOK_nil freeOK_cons D.frz frzL Ob.frz frzO St.frz forgetLs dropObs putObs hcall freeOf keeps baseN shD isShift shMax k_bad VCopsG frz_nil actx actc cnum vwCut St.frzT St.opnT St.clsT D.opn opnL Ob.opn opnO
set_option maxRecDepth 100000 in
set_option maxHeartbeats 8000000 in
theorem v_mend (h1 : T.sp n_store_End = some sp_End) : Verified T ir_recover_memory_end sp_mend := by
  refine Verified.mkx rfl ?_
  rintro ds ob ⟨x, s, next, ⟨t1, t2⟩, yes, rfl, rfl, hx, hf, he⟩ R hR
  rw [mend_F hx] at hR
  have x1 : sp_End.hx = none := rfl
  have f1 := end_F s (t1, t2) yes
  have p1 := end_pre hf (t1, t2) yes
  rw [he] at f1
  generalize (endS s (t1, t2) yes).1 = u at f1 hR
  clear he hf
  obtain ⟨s1, s2, s3, s4⟩ := s
  obtain ⟨u1, u2, u3, u4⟩ := u
  rcases hx with rfl | ⟨rfl, e⟩
  · simp only [stoC, txC, List.singleton_append, List.cons_append, List.nil_append] at f1 p1 hR ⊢
    simp (implicitDefEqProofs := false) (maxSteps := 10000000) [ir_recover_memory_end, h1, x1, f1, p1]
    exact hR _ [] (by simp (implicitDefEqProofs := false) (maxSteps := 10000000))
  · cases e
    simp only [stoC, txC, List.singleton_append, List.cons_append, List.nil_append, List.map_nil] at f1 p1 hR ⊢
    simp (implicitDefEqProofs := false) (maxSteps := 10000000) [ir_recover_memory_end, h1, x1, f1, p1]
    exact hR _ [] (by simp (implicitDefEqProofs := false) (maxSteps := 10000000))
set_option maxRecDepth 100000 in
set_option maxHeartbeats 8000000 in
theorem v_mone (h1 : T.sp n_store_Write = some sp_Write) (h2 : T.sp n_recover_memory_end = some sp_mend) : Verified T ir_recover_memory_one sp_mone := by
  refine Verified.mkx rfl ?_
  rintro ds ob ⟨x, ⟨s, next⟩, ⟨kind, site, n, key, value, ask, yes, sites⟩, rfl, rfl, hx, hf, hs, hn0, hn1, hk⟩ R hR
  rw [mone_F hx] at hR
  simp only at hs hn0 hn1 hk hf hx
  subst hs
  have x1 : sp_Write.hx = none := rfl
  have x2 : sp_mend.hx = some hs_mend := rfl
  rcases hk with ⟨rfl, he⟩ | ⟨rfl, he⟩ | ⟨rfl, rfl⟩
  · have f1 := write_F s (site, n) key value ask
    have p1 := write_pre hf (site, n) key value ask
    rw [he] at f1
    rw [if_neg (by simp), memStep, if_pos rfl] at hR
    simp only at hR
    generalize (writeS s (site, n) key value ask).1 = u at f1 hR
    clear he hf
    obtain ⟨s1, s2, s3, s4⟩ := s
    obtain ⟨u1, u2, u3, u4⟩ := u
    rcases hx with rfl | ⟨rfl, e⟩
    · simp only [stoC, txC, recC, List.map_nil, List.singleton_append, List.cons_append, List.nil_append] at f1 p1 hR ⊢
      simp (implicitDefEqProofs := false) (maxSteps := 10000000) [ir_recover_memory_one, h1, x1, f1, p1]
      exact hR _ [] (by simp (implicitDefEqProofs := false) (maxSteps := 10000000))
    · cases e
      simp only [stoC, txC, recC, List.map_nil, List.singleton_append, List.cons_append, List.nil_append] at f1 p1 hR ⊢
      simp (implicitDefEqProofs := false) (maxSteps := 10000000) [ir_recover_memory_one, h1, x1, f1, p1]
      exact hR _ [] (by simp (implicitDefEqProofs := false) (maxSteps := 10000000))
  · have f1 := mend_F hx next (site, n) yes
    have p1 := mend_pre hx hf next he
    rw [if_neg (by simp), memStep, if_neg (by simp), if_pos rfl] at hR
    simp only at hR
    generalize (endS s (site, n) yes).1 = u at f1 hR
    clear he hf
    obtain ⟨s1, s2, s3, s4⟩ := s
    obtain ⟨u1, u2, u3, u4⟩ := u
    rcases hx with rfl | ⟨rfl, e⟩
    · simp only [stoC, txC, recC, List.map_nil, List.singleton_append, List.cons_append, List.nil_append] at f1 p1 hR ⊢
      simp (implicitDefEqProofs := false) (maxSteps := 10000000) [ir_recover_memory_one, h2, x2, f1, p1]
      refine k_loop (ι := Unit) (fun _ => ⟨mkTm 136 0 [(46, .int .i64 0), (47, .int .i64 0)], [(1000000000, .box [.int .i64 0, .fz 3 (u1.map itC), .fz 6 (u2.map lkC), .fz 3 (u3.map dbC), .fz 2 (u4.map txC), .int .i64 next, .nl 6, .nl 4])]⟩)
        (fun _ => 0) [] () (by simp (implicitDefEqProofs := false) (maxSteps := 10000000)) ?_
      rintro _ Q hQ
      clear hQ
      simp (implicitDefEqProofs := false) (maxSteps := 10000000) [ir_recover_memory_one_b0]
      exact hR _ [] (by simp (implicitDefEqProofs := false) (maxSteps := 10000000))
    · cases e
      simp only [stoC, txC, recC, List.map_nil, List.singleton_append, List.cons_append, List.nil_append] at f1 p1 hR ⊢
      simp (implicitDefEqProofs := false) (maxSteps := 10000000) [ir_recover_memory_one, h2, x2, f1, p1]
      refine k_loop (ι := Unit) (fun _ => ⟨mkTm 136 0 [(46, .int .i64 0), (47, .int .i64 0)], [(1000000000, .box [.int .i64 0, .fz 3 (u1.map itC), .fz 6 (u2.map lkC), .fz 3 (u3.map dbC), .fz 2 (u4.map txC), .int .i64 next, .nl 6, .nl 4])]⟩)
        (fun _ => 0) [] () (by simp (implicitDefEqProofs := false) (maxSteps := 10000000)) ?_
      rintro _ Q hQ
      clear hQ
      simp (implicitDefEqProofs := false) (maxSteps := 10000000) [ir_recover_memory_one_b0]
      exact hR _ [] (by simp (implicitDefEqProofs := false) (maxSteps := 10000000))
  · rw [if_pos rfl, memStep, if_neg (by simp), if_neg (by simp)] at hR
    simp only at hR
    clear hf
    have r1 : inR .i64 (n + 1) := by simp only [inR]; omega
    obtain ⟨s1, s2, s3, s4⟩ := s
    rcases hx with rfl | ⟨rfl, e⟩
    · simp only [stoC, recC, List.map_nil, List.singleton_append, List.cons_append, List.nil_append] at hR ⊢
      simp (implicitDefEqProofs := false) (maxSteps := 10000000) [ir_recover_memory_one, r1]
      exact hR _ [] (by simp (implicitDefEqProofs := false) (maxSteps := 10000000))
    · cases e
      simp only [stoC, recC, List.map_nil, List.singleton_append, List.cons_append, List.nil_append] at hR ⊢
      simp (implicitDefEqProofs := false) (maxSteps := 10000000) [ir_recover_memory_one, r1]
      exact hR _ [] (by simp (implicitDefEqProofs := false) (maxSteps := 10000000))
end
end Go.Proofs.YtffpjlhlkakpaaaDoor
