/-
  recover: what ends, what is committed, what one record does. Conditions: those of each specification's 'pre', and that the functions that are called are what theirs say.
-/
import Derived.Test.YtpkabalijooeaaaDoorRcA
set_option linter.unusedVariables false
set_option linter.unusedSimpArgs false
namespace Go.Proofs.YtpkabalijooeaaaDoor
open Go Go.Vcg

structure Nt where
  (site n : Int) (yes dmg : Bool)
def ntC (x : Nt) : List D := [.int .i64 x.site, .int .i64 x.n, .bool x.yes, .bool x.dmg]
def ntOf : List D → Nt
  | [.int _ a, .int _ b, .bool y, .bool d] => ⟨a, b, y, d⟩
  | _ => ⟨0, 0, false, false⟩
theorem nts_of (l : List Nt) : lsOf ntOf (.fz 4 (l.map ntC)) = l := lsOf_map (fun _ => rfl) 4 l
/-- What comes back. -/
structure Mm where
  s : Sto
  next : Int
  jobs : List Jb
  notes : List Nt
/-- The new one, if all went well. -/
noncomputable def keepS (x : Sto × Int) (s : Sto) : Sto := if x.2 = 0 then x.1 else s
/-- A note that is damage, when the transaction is decided so. -/
def dmgN (t : Tx) (yes : Bool) (x : Nt) : Nt := if (decide (x.site = t.1) && decide (x.n = t.2)) = true ∧ x.yes ≠ yes then { x with dmg := true } else x
/-- A job that is told. -/
def comJ (me next : Int) (l : List Jb) (r : Rc) : List Jb :=
  if hasJ l r.n = true ∨ r.site ≠ me ∨ next ≤ r.n ∨ r.sites.length = 0 ∨ l.length = 6 then l else insJ l (posJ l r.n) ⟨r.n, 3, [], r.sites, 0, 0⟩
noncomputable def mmStep (me : Int) (m : Mm) (r : Rc) : Mm :=
  if r.kind = 1 then { m with s := keepS (writeS m.s (r.site, r.n) r.key r.value r.ask) m.s }
  else if r.kind = 2 then { m with s := keepS (endS m.s (r.site, r.n) r.yes) m.s, notes := m.notes.map (dmgN (r.site, r.n) r.yes) }
  else if r.kind = 6 then { m with s := keepS (endS m.s (r.site, r.n) r.yes) m.s, notes := m.notes ++ [⟨r.site, r.n, r.yes, false⟩] }
  else if r.kind = 3 then { m with jobs := comJ me m.next m.jobs r }
  else if r.kind = 4 then { m with jobs := m.jobs.filter fun x => !(goneJ me r x) }
  else { m with next := if r.site = me then max m.next (r.n + 1) else m.next }
def mmOk (m : Mm) : Prop := fewS' m.s ∧ sortJ m.jobs ∧ (∀ x ∈ m.jobs, 0 ≤ x.n ∧ x.n ≤ 2000000) ∧ m.jobs.length ≤ 1000 ∧ m.notes.length ≤ 1000
def rcOk (r : Rc) : Prop := 1 ≤ r.kind ∧ r.kind ≤ 6 ∧ 0 ≤ r.n ∧ r.n ≤ 1048576 ∧ r.sites.length ≤ 1000
/-- f of the first j. -/
def mapTo {α : Type} (f : α → α) (l : List α) (j : Nat) : List α := (l.take j).map f ++ l.drop j
section
variable {α : Type} {f : α → α} {l : List α} {j : Nat}
theorem mapTo_zero : mapTo f l 0 = l := by simp [mapTo]
theorem mapTo_all : mapTo f l l.length = l.map f := by simp [mapTo]
theorem length_mapTo : (mapTo f l j).length = l.length := by simp [mapTo]; omega
theorem mapTo_get (h : j < l.length) : (mapTo f l j)[j]'(by rw [length_mapTo]; exact h) = l[j] := by
  have hl : ((l.take j).map f).length = j := by simp; omega
  simp only [mapTo]
  rw [List.getElem_append_right (by omega)]
  have e : min j l.length = j := by omega
  simp [e]
theorem mapTo_set (h : j < l.length) : (mapTo f l j).set j (f l[j]) = mapTo f l (j + 1) := by
  have hl : ((l.take j).map f).length = j := by simp; omega
  simp only [mapTo]
  rw [List.set_append_right _ _ (by omega), hl, Nat.sub_self, List.drop_eq_getElem_cons h, List.set_cons_zero, List.take_succ_eq_append_getElem h, List.map_append]
  simp only [List.append_assoc, List.map_cons, List.map_nil, List.cons_append, List.nil_append]
theorem mapTo_skip (h : j < l.length) (he : f l[j] = l[j]) : mapTo f l (j + 1) = mapTo f l j := by
  simp only [mapTo]
  rw [List.drop_eq_getElem_cons h, List.take_succ_eq_append_getElem h, List.map_append]
  simp only [List.append_assoc, List.map_cons, List.map_nil, List.cons_append, List.nil_append, he]
end

noncomputable def hs_mend : HSp := {
  pre := fun ds ob => ∃ (me next : Int) (s : Sto) (t : Tx) (yes : Bool) (js ns : List (List D)), ds = [.own 1000000000 0, .agg (txC t), .bool yes] ∧ ob = [(1000000000, .box ([.int .i64 me] ++ stoC s ++ [.int .i64 next, .row 1000000001, .row 1000000002])), (1000000001, .row 6 js), (1000000002, .row 4 ns)] ∧ fewS' s
  F := fun ds ob => match ds, ob with
    | [_, .agg t, .bool yes], [(_, .box [me, a, b, c, d, n, _, _]), p, q] => (.tup [], [(1000000000, .box ([me] ++ stoC (keepS (endS (stoOf (.agg [a, b, c, d])) (txOf t) yes) (stoOf (.agg [a, b, c, d]))) ++ [n, .row 1000000001, .row 1000000002])), p, q])
    | _, _ => (.any, []) }
noncomputable def sp_mend : Sp := { pre := fun _ => True, F := fun _ => .any, hx := some hs_mend }
theorem mend_F (me next : Int) (s : Sto) (t : Tx) (yes : Bool) (js ns : List (List D)) : hs_mend.F [.own 1000000000 0, .agg (txC t), .bool yes] [(1000000000, .box ([.int .i64 me] ++ stoC s ++ [.int .i64 next, .row 1000000001, .row 1000000002])), (1000000001, .row 6 js), (1000000002, .row 4 ns)] = (.tup [], [(1000000000, .box ([.int .i64 me] ++ stoC (keepS (endS s t yes) s) ++ [.int .i64 next, .row 1000000001, .row 1000000002])), (1000000001, .row 6 js), (1000000002, .row 4 ns)]) := by
  have e : stoOf (.agg (stoC s)) = s := stoOf_stoD s
  simp only [stoC, List.singleton_append, List.cons_append, List.nil_append, hs_mend, txOf_txC] at e ⊢
  rw [e]
theorem mend_pre (me next : Int) {s : Sto} (hf : fewS' s) (t : Tx) (yes : Bool) (js ns : List (List D)) : hs_mend.pre [.own 1000000000 0, .agg (txC t), .bool yes] [(1000000000, .box ([.int .i64 me] ++ stoC s ++ [.int .i64 next, .row 1000000001, .row 1000000002])), (1000000001, .row 6 js), (1000000002, .row 4 ns)] = True := by
  simp only [hs_mend, eq_iff_iff, iff_true]; exact ⟨me, next, s, t, yes, js, ns, rfl, rfl, hf⟩
def hs_com : HSp := {
  pre := fun ds ob => ∃ (me next : Int) (a b c d ns : List (List D)) (l : List Jb) (r : Rc), ds = [.own 1000000000 0, .agg (recC r)] ∧ ob = [(1000000000, .box [.int .i64 me, .fz 3 a, .fz 6 b, .fz 3 c, .fz 2 d, .int .i64 next, .row 1000000001, .row 1000000002]), (1000000001, .row 6 (l.map jbC)), (1000000002, .row 4 ns)] ∧ sortJ l ∧ (∀ x ∈ l, 0 ≤ x.n ∧ x.n ≤ 2000000) ∧ l.length ≤ 1000 ∧ rcOk r
  F := fun ds ob => match ds, ob with
    | [_, .agg r], [(_, .box [.int z me, a, b, c, d, .int z2 next, _, _]), (_, .row _ es), q] => (.tup [], [(1000000000, .box [.int z me, a, b, c, d, .int z2 next, .row 0, .row 1000000002]), (0, .row 6 ((comJ me next (lsOf jbOf (.fz 6 es)) (recL r)).map jbC)), q])
    | _, _ => (.any, []) }
def sp_com : Sp := { pre := fun _ => True, F := fun _ => .any, hx := some hs_com }
theorem com_F (me next : Int) (a b c d ns : List (List D)) (l : List Jb) (r : Rc) : hs_com.F [.own 1000000000 0, .agg (recC r)] [(1000000000, .box [.int .i64 me, .fz 3 a, .fz 6 b, .fz 3 c, .fz 2 d, .int .i64 next, .row 1000000001, .row 1000000002]), (1000000001, .row 6 (l.map jbC)), (1000000002, .row 4 ns)] = (.tup [], [(1000000000, .box [.int .i64 me, .fz 3 a, .fz 6 b, .fz 3 c, .fz 2 d, .int .i64 next, .row 0, .row 1000000002]), (0, .row 6 ((comJ me next l r).map jbC)), (1000000002, .row 4 ns)]) := by
  simp only [hs_com, jbs_of, recL_recC]
theorem com_pre (me next : Int) (a b c d ns : List (List D)) {l : List Jb} {r : Rc} (h1 : sortJ l) (h2 : ∀ x ∈ l, 0 ≤ x.n ∧ x.n ≤ 2000000) (h3 : l.length ≤ 1000) (h4 : rcOk r) : hs_com.pre [.own 1000000000 0, .agg (recC r)] [(1000000000, .box [.int .i64 me, .fz 3 a, .fz 6 b, .fz 3 c, .fz 2 d, .int .i64 next, .row 1000000001, .row 1000000002]), (1000000001, .row 6 (l.map jbC)), (1000000002, .row 4 ns)] = True := by
  simp only [hs_com, eq_iff_iff, iff_true]; exact ⟨me, next, a, b, c, d, ns, l, r, rfl, rfl, h1, h2, h3, h4⟩
def sp_CloneInt : Sp := { pre := fun ds => ∃ l : List (List D), ds = [.fz 1 l] ∧ l.length ≤ 100000, F := fun | [x] => x | _ => .any }
theorem cloneInt_pre {l : List (List D)} (h : l.length ≤ 100000) : sp_CloneInt.pre [.fz 1 l] = True := by
  simp only [sp_CloneInt, eq_iff_iff, iff_true]; exact ⟨l, rfl, h⟩
theorem cloneInt_F (l : List (List D)) : sp_CloneInt.F [.fz 1 l] = .fz 1 l := rfl
theorem binJ_F (l : List Jb) (k : Int) (c : D) : sp_BinJ.F [.fz 6 (l.map jbC), .int .i64 k, c] = .tup [.int .i64 (posJ l k), .bool (hasJ l k)] := by
  simp only [sp_BinJ, jbs_of]
theorem binJ_pre {l : List Jb} {k : Int} (h1 : sortJ l) (h2 : ∀ x ∈ l, 0 ≤ x.n ∧ x.n ≤ 2000000) (h3 : l.length ≤ 100000) (h4 : 0 ≤ k ∧ k ≤ 2000000) : sp_BinJ.pre [.fz 6 (l.map jbC), .int .i64 k, .clo n_recover_memory_committed_1 []] = True := by
  simp only [sp_BinJ, eq_iff_iff, iff_true]; exact ⟨l, k, rfl, h1, h3, h2, h4.1, h4.2⟩

section
variable {T : Tb}
attribute [local simp] k_seq k_block k_skip k_reg k_alt k_cond k_exit k_ret kf_nil kf_seq_n kf_seq_e kf_seq_r kf_blk_n kf_blk_e kf_blk_r kf_lp_n kf_lp_e kf_lp_r kf_cut_n kf_cut_e kf_cut_r mkTm VCops VCalt istep act gd applyE wrapD Opd.ev get_mk set_mk set_mk0 tget16 tset16 tget_0 tset_0 tget_1 tset_1 tget_2 tset_2 tget_3 tset_3 tget_4 tset_4 tget_5 tset_5 tget_6 tset_6 tget_7 tset_7 tget_8 tset_8 tget_9 tset_9 tget_10 tset_10 tget_11 tset_11 tget_12 tset_12 tget_13 tset_13 tget_14 tset_14 tget_15 tset_15 D.un D.gu gus IOp.opds binD fnPost getRes IRes.get oneRes D.out outL D.clos closL D.norow norowL D.lv lvL D.scal scalL D.cells D.cell D.cell' St.lk obPut obDel List.lookup cut pickD splice fillParts fillRows elem_cons newsOf D.pl D.forget forgetL Ob.forget forgetO eqCells sg leD leDL leOb apartK St.le D.keys keysL D.rows rowsL obKeys addKeys reach pos D.ren renL Ob.ren inM outM inObs outObs goneK apartN okNames_eq okNms obNms namesOK_nil namesOK_cons freeOK_nil freeOK_cons D.frz frzL Ob.frz frzO St.frz forgetLs dropObs putObs hcall freeOf keeps baseN shD isShift shMax k_bad VCopsG frz_nil actx actc cnum vwCut St.frzT St.opnT St.clsT D.opn opnL Ob.opn opnO
set_option maxRecDepth 100000 in
theorem v_CloneInt : Verified T ir_slices_Clone_int_int sp_CloneInt := by
  refine Verified.mk ?_
  rintro ds ⟨l, rfl, hl⟩
  rw [cloneInt_F]
  cases l with
  | nil =>
    simp (implicitDefEqProofs := false) [ir_slices_Clone_int_int]
  | cons e es =>
    simp only [List.length_cons] at hl
    simp (implicitDefEqProofs := false) [ir_slices_Clone_int_int]
    omega
set_option maxRecDepth 100000 in
set_option maxHeartbeats 8000000 in
theorem v_mend (h1 : T.sp n_store_End = some sp_End) : Verified T ir_recover_memory_end sp_mend := by
  refine Verified.mkx rfl ?_
  rintro ds ob ⟨me, next, s, ⟨t1, t2⟩, yes, js, ns, rfl, rfl, hf⟩ R hR
  rw [mend_F] at hR
  have x1 : sp_End.hx = none := rfl
  have f1 := end_F s (t1, t2) yes
  have p1 := end_pre hf (t1, t2) yes
  rw [keepS] at hR
  generalize endS s (t1, t2) yes = u at f1 hR
  clear hf
  obtain ⟨s1, s2, s3, s4⟩ := s
  obtain ⟨⟨u1, u2, u3, u4⟩, e⟩ := u
  simp only at f1 hR
  simp only [stoC, txC, List.singleton_append, List.cons_append, List.nil_append] at f1 p1 hR ⊢
  by_cases he : e = 0
  · subst he
    simp only [if_true] at hR
    simp (implicitDefEqProofs := false) (maxSteps := 10000000) [ir_recover_memory_end, h1, x1, f1, p1]
    exact hR _ [] (by simp (implicitDefEqProofs := false) (maxSteps := 10000000))
  · simp only [if_neg he] at hR
    simp (implicitDefEqProofs := false) (maxSteps := 10000000) [ir_recover_memory_end, h1, x1, f1, p1, he]
    exact hR _ [] (by simp (implicitDefEqProofs := false) (maxSteps := 10000000))
set_option maxRecDepth 100000 in
set_option maxHeartbeats 8000000 in
theorem v_com (h1 : T.sp n_slices_BinarySearchFunc_reredos_api_Job_reredos_api_Job_int = some sp_BinJ) (h2 : T.sp n_slices_Clone_int_int = some sp_CloneInt) (h3 : T.sp n_slices_Insert_reredos_api_Job_reredos_api_Job = some sp_InsJ) : Verified T ir_recover_memory_committed sp_com := by
  refine Verified.mkx rfl ?_
  rintro ds ob ⟨me, next, a, b, c, d, ns, l, r, rfl, rfl, hs, hB, hl, hr⟩ R hR
  rw [com_F, comJ] at hR
  have x1 : sp_BinJ.hx = none := rfl
  have x2 : sp_CloneInt.hx = none := rfl
  have x3 : sp_InsJ.hx = some hs_InsJ := rfl
  have f1 := binJ_F l r.n (.clo n_recover_memory_committed_1 [])
  have p1 := binJ_pre hs hB (by omega) (k := r.n) ⟨hr.2.2.1, by have := hr.2.2.2.1; omega⟩
  have f2 := cloneInt_F (r.sites.map ic)
  have p2 := cloneInt_pre (l := r.sites.map ic) (by have := hr.2.2.2.2; simp; omega)
  have hpl := (posJ_spec hs r.n).1
  have f3 := InsJ_F l (posJ l r.n) ⟨r.n, 3, [], r.sites, 0, 0⟩
  have p3 := InsJ_pre (x := ⟨r.n, 3, [], r.sites, 0, 0⟩) hpl (by omega)
  simp only [n_recover_memory_committed_1] at f1 p1
  clear hs hB hpl hr
  generalize insJ l (posJ l r.n) ⟨r.n, 3, [], r.sites, 0, 0⟩ = L at hR f3
  generalize posJ l r.n = pos at f1 f3 p3
  generalize hasJ l r.n = has at f1 hR
  obtain ⟨r1, r2, r3, r4, r5, r6, r7, r8⟩ := r
  simp only [recC, jbC, List.map_nil] at f1 p1 f2 p2 f3 p3 hR ⊢
  have hl6 : ((l.length : Int) = 6) = (l.length = 6) := propext ⟨fun _ => by omega, fun _ => by omega⟩
  have hl8 : ((r8.length : Int) = 0) = (r8.length = 0) := propext ⟨fun _ => by omega, fun _ => by omega⟩
  cases has
  · by_cases c1 : r2 = me
    · by_cases c2 : next ≤ r3
      · rw [if_pos (by simp [c2])] at hR
        simp (implicitDefEqProofs := false) (maxSteps := 10000000) [ir_recover_memory_committed, h1, x1, f1, p1, c1, c2, hl6, hl8]
        exact hR _ [(0, some 1000000001)] (by simp (implicitDefEqProofs := false) (maxSteps := 10000000))
      · by_cases c3 : r8.length = 0
        · rw [if_pos (by simp [c3])] at hR
          simp (implicitDefEqProofs := false) (maxSteps := 10000000) [ir_recover_memory_committed, h1, x1, f1, p1, c1, c2, c3, hl6, hl8]
          exact hR _ [(0, some 1000000001)] (by simp (implicitDefEqProofs := false) (maxSteps := 10000000))
        · by_cases c4 : l.length = 6
          · rw [if_pos (by simp [c4])] at hR
            simp (implicitDefEqProofs := false) (maxSteps := 10000000) [ir_recover_memory_committed, h1, x1, f1, p1, c1, c2, c3, c4, hl6, hl8]
            exact hR _ [(0, some 1000000001)] (by simp (implicitDefEqProofs := false) (maxSteps := 10000000))
          · rw [if_neg (by simp [c1, c2, c3, c4])] at hR
            simp (implicitDefEqProofs := false) (maxSteps := 10000000) [ir_recover_memory_committed, h1, x1, f1, p1, h2, x2, f2, p2, h3, x3, f3, p3, c1, c2, c3, c4, hl6, hl8]
            exact hR _ [(0, some 710000)] (by simp (implicitDefEqProofs := false) (maxSteps := 10000000))
    · rw [if_pos (by simp [c1])] at hR
      simp (implicitDefEqProofs := false) (maxSteps := 10000000) [ir_recover_memory_committed, h1, x1, f1, p1, c1, hl6, hl8]
      exact hR _ [(0, some 1000000001)] (by simp (implicitDefEqProofs := false) (maxSteps := 10000000))
  · rw [if_pos (by simp)] at hR
    simp (implicitDefEqProofs := false) (maxSteps := 10000000) [ir_recover_memory_committed, h1, x1, f1, p1, hl6, hl8]
    exact hR _ [(0, some 1000000001)] (by simp (implicitDefEqProofs := false) (maxSteps := 10000000))
end
end Go.Proofs.YtpkabalijooeaaaDoor
