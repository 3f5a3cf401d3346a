/-
  recover: one record of any kind. Conditions: those of each specification's 'pre', and that the functions that are called are what theirs say.
-/
import Derived.Test.YtpkabalijooeaaaDoorRcB
set_option linter.unusedVariables false
set_option linter.unusedSimpArgs false
namespace Go.Proofs.YtpkabalijooeaaaDoor
open Go Go.Vcg

noncomputable def hs_mone : HSp := {
  pre := fun ds ob => ∃ (me : Int) (m : Mm) (r : Rc), ds = [.own 1000000000 0, .agg (recC r)] ∧ ob = [(1000000000, .box ([.int .i64 me] ++ stoC m.s ++ [.int .i64 m.next, .row 1000000001, .row 1000000002])), (1000000001, .row 6 (m.jobs.map jbC)), (1000000002, .row 4 (m.notes.map ntC))] ∧ mmOk m ∧ rcOk r
  F := fun ds ob => match ds, ob with
    | [_, .agg r], [(_, .box [.int z me, a, b, c, d, .int z2 n, _, _]), (_, .row _ js), (_, .row _ ns)] => (.tup [], [(1000000000, .box ([.int .i64 me] ++ stoC (mmStep me ⟨stoOf (.agg [a, b, c, d]), n, lsOf jbOf (.fz 6 js), lsOf ntOf (.fz 4 ns)⟩ (recL r)).s ++ [.int .i64 (mmStep me ⟨stoOf (.agg [a, b, c, d]), n, lsOf jbOf (.fz 6 js), lsOf ntOf (.fz 4 ns)⟩ (recL r)).next, .row 0, .row 1])), (0, .row 6 ((mmStep me ⟨stoOf (.agg [a, b, c, d]), n, lsOf jbOf (.fz 6 js), lsOf ntOf (.fz 4 ns)⟩ (recL r)).jobs.map jbC)), (1, .row 4 ((mmStep me ⟨stoOf (.agg [a, b, c, d]), n, lsOf jbOf (.fz 6 js), lsOf ntOf (.fz 4 ns)⟩ (recL r)).notes.map ntC))])
    | _, _ => (.any, []) }
noncomputable def sp_mone : Sp := { pre := fun _ => True, F := fun _ => .any, hx := some hs_mone }
theorem mone_F (me : Int) (m : Mm) (r : Rc) : hs_mone.F [.own 1000000000 0, .agg (recC r)] [(1000000000, .box ([.int .i64 me] ++ stoC m.s ++ [.int .i64 m.next, .row 1000000001, .row 1000000002])), (1000000001, .row 6 (m.jobs.map jbC)), (1000000002, .row 4 (m.notes.map ntC))] = (.tup [], [(1000000000, .box ([.int .i64 me] ++ stoC (mmStep me m r).s ++ [.int .i64 (mmStep me m r).next, .row 0, .row 1])), (0, .row 6 ((mmStep me m r).jobs.map jbC)), (1, .row 4 ((mmStep me m r).notes.map ntC))]) := by
  have e : stoOf (.agg (stoC m.s)) = m.s := stoOf_stoD m.s
  obtain ⟨s, next, jobs, notes⟩ := m
  simp only at e ⊢
  simp only [stoC, List.singleton_append, List.cons_append, List.nil_append, hs_mone, recL_recC, jbs_of, nts_of] at e ⊢
  rw [e]
theorem mone_pre (me : Int) {m : Mm} {r : Rc} (h1 : mmOk m) (h2 : rcOk r) : hs_mone.pre [.own 1000000000 0, .agg (recC r)] [(1000000000, .box ([.int .i64 me] ++ stoC m.s ++ [.int .i64 m.next, .row 1000000001, .row 1000000002])), (1000000001, .row 6 (m.jobs.map jbC)), (1000000002, .row 4 (m.notes.map ntC))] = True := by
  simp only [hs_mone, eq_iff_iff, iff_true]; exact ⟨me, m, r, rfl, rfl, h1, h2⟩
section
variable {T : Tb}
attribute [local simp] k_seq k_block k_skip k_reg k_alt k_cond k_exit k_ret kf_nil kf_seq_n kf_seq_e kf_seq_r kf_blk_n kf_blk_e kf_blk_r kf_lp_n kf_lp_e kf_lp_r kf_cut_n kf_cut_e kf_cut_r mkTm VCops VCalt istep act gd applyE wrapD Opd.ev get_mk set_mk set_mk0 tget16 tset16 tget_0 tset_0 tget_1 tset_1 tget_2 tset_2 tget_3 tset_3 tget_4 tset_4 tget_5 tset_5 tget_6 tset_6 tget_7 tset_7 tget_8 tset_8 tget_9 tset_9 tget_10 tset_10 tget_11 tset_11 tget_12 tset_12 tget_13 tset_13 tget_14 tset_14 tget_15 tset_15 D.un D.gu gus IOp.opds binD fnPost getRes IRes.get oneRes D.out outL D.clos closL D.norow norowL D.lv lvL D.scal scalL D.cells D.cell D.cell' St.lk obPut obDel List.lookup cut pickD splice fillParts fillRows elem_cons newsOf D.pl D.forget forgetL Ob.forget forgetO eqCells sg leD leDL leOb apartK St.le D.keys keysL D.rows rowsL obKeys addKeys reach pos D.ren renL Ob.ren inM outM inObs outObs goneK apartN okNames_eq okNms obNms namesOK_nil namesOK_cons freeOK_nil freeOK_cons D.frz frzL Ob.frz frzO St.frz forgetLs dropObs putObs hcall freeOf keeps baseN shD isShift shMax k_bad VCopsG frz_nil actx actc cnum vwCut St.frzT St.opnT St.clsT D.opn opnL Ob.opn opnO
set_option maxRecDepth 100000 in
set_option maxHeartbeats 16000000 in
theorem v_mone (h1 : T.sp n_store_Write = some sp_Write) (h2 : T.sp n_recover_memory_end = some sp_mend) (h3 : T.sp n_recover_memory_committed = some sp_com) (h4 : T.sp n_slices_DeleteFunc_reredos_api_Job_reredos_api_Job = some sp_DelJ) : Verified T ir_recover_memory_one sp_mone := by
  refine Verified.mkx rfl ?_
  rintro ds ob ⟨me, ⟨s, next, jobs, notes⟩, ⟨kind, site, n, key, value, ask, yes, sites⟩, rfl, rfl, ⟨hf, hs, hB, hjl, hnl⟩, hr⟩ R hR
  rw [mone_F] at hR
  have hr' := hr
  obtain ⟨k1, k2, n1, n2, hsl⟩ := hr
  simp only at k1 k2 n1 n2 hsl hf hs hB hjl hnl
  have x1 : sp_Write.hx = none := rfl
  have x2 : sp_mend.hx = some hs_mend := rfl
  have x3 : sp_com.hx = some hs_com := rfl
  have x4 : sp_DelJ.hx = some hs_DelJ := rfl
  have hk : kind = 1 ∨ kind = 2 ∨ kind = 6 ∨ kind = 3 ∨ kind = 4 ∨ kind = 5 := by omega
  rcases hk with rfl | rfl | rfl | rfl | rfl | rfl
  · have f1 := write_F s (site, n) key value ask
    have p1 := write_pre hf (site, n) key value ask
    rw [mmStep, if_pos rfl] at hR
    simp only [keepS] at hR
    generalize writeS s (site, n) key value ask = u at f1 hR
    clear hf hs hB hr'
    obtain ⟨s1, s2, s3, s4⟩ := s
    obtain ⟨⟨u1, u2, u3, u4⟩, e⟩ := u
    simp only at f1 hR
    simp only [stoC, txC, recC, List.singleton_append, List.cons_append, List.nil_append] at f1 p1 hR ⊢
    by_cases he : e = 0
    · subst he
      simp only [if_true] at hR
      simp (implicitDefEqProofs := false) (maxSteps := 10000000) [ir_recover_memory_one, h1, x1, f1, p1]
      exact hR _ [(0, some 1000000001), (1, some 1000000002)] (by simp (implicitDefEqProofs := false) (maxSteps := 10000000))
    · simp only [if_neg he] at hR
      simp (implicitDefEqProofs := false) (maxSteps := 10000000) [ir_recover_memory_one, h1, x1, f1, p1, he]
      exact hR _ [(0, some 1000000001), (1, some 1000000002)] (by simp (implicitDefEqProofs := false) (maxSteps := 10000000))
  · have f1 := mend_F me next s (site, n) yes (jobs.map jbC) (notes.map ntC)
    have p1 := mend_pre me next hf (site, n) yes (jobs.map jbC) (notes.map ntC)
    rw [mmStep, if_neg (by simp), if_pos rfl] at hR
    simp only at hR
    generalize keepS (endS s (site, n) yes) s = u at f1 hR
    clear hf hs hB hr'
    obtain ⟨s1, s2, s3, s4⟩ := s
    obtain ⟨u1, u2, u3, u4⟩ := u
    simp only [stoC, txC, recC, List.singleton_append, List.cons_append, List.nil_append] at f1 p1 hR ⊢
    simp (implicitDefEqProofs := false) (maxSteps := 10000000) [ir_recover_memory_one, h2, x2, f1, p1]
    clear f1 p1
    refine k_loop (ι := {j : Nat // j ≤ notes.length}) (fun x => ⟨mkTm 136 0 [(2, .own 2 0), (3, .own 3 0), (45, .row 1000000002), (46, .int .i64 notes.length), (47, .int .i64 x.1)], [(1000000000, .box [.int .i64 me, .fz 3 (u1.map itC), .fz 6 (u2.map lkC), .fz 3 (u3.map dbC), .fz 2 (u4.map txC), .int .i64 next, .row 1000000001, .row 1000000002]), (1000000001, .row 6 (jobs.map jbC)), (1000000002, .row 4 ((mapTo (dmgN (site, n) yes) notes x.1).map ntC)), (2, .box [.own 1000000000 0]), (3, .box [.int .i64 2, .int .i64 site, .int .i64 n, .int .i64 key, .int .i64 value, .int .i64 ask, .bool yes, .fz 1 (sites.map ic)])]⟩)
      (fun x => notes.length - x.1) [] ⟨0, by omega⟩ (by simp (implicitDefEqProofs := false) (maxSteps := 10000000) [mapTo_zero]) ?_
    rintro ⟨j, hj⟩ Q hQ
    by_cases hjn : j < notes.length
    · have hjn' : (j : Int) < notes.length := by omega
      have hlA : (mapTo (dmgN (site, n) yes) notes j).length = notes.length := length_mapTo
      have hel := elem_map ntC (mapTo (dmgN (site, n) yes) notes j) j (by omega)
      rw [mapTo_get hjn] at hel
      have hset := congrArg (List.map ntC) (mapTo_set (f := dmgN (site, n) yes) hjn)
      rw [List.map_set] at hset
      have hsk := mapTo_skip (f := dmgN (site, n) yes) hjn
      have hgo : ∀ s', (∃ σ, St.le σ s' ⟨mkTm 136 0 [(2, .own 2 0), (3, .own 3 0), (45, .row 1000000002), (46, .int .i64 notes.length), (47, .int .i64 (j + 1 : Nat))], [(1000000000, .box [.int .i64 me, .fz 3 (u1.map itC), .fz 6 (u2.map lkC), .fz 3 (u3.map dbC), .fz 2 (u4.map txC), .int .i64 next, .row 1000000001, .row 1000000002]), (1000000001, .row 6 (jobs.map jbC)), (1000000002, .row 4 ((mapTo (dmgN (site, n) yes) notes (j + 1)).map ntC)), (2, .box [.own 1000000000 0]), (3, .box [.int .i64 2, .int .i64 site, .int .i64 n, .int .i64 key, .int .i64 value, .int .i64 ask, .bool yes, .fz 1 (sites.map ic)])]⟩) → Q s' :=
        fun s' ⟨σ, h⟩ => hQ s' σ ⟨j + 1, by omega⟩ h (by simp only; omega)
      clear hQ
      generalize notes[j] = x at hel hset hsk
      generalize mapTo (dmgN (site, n) yes) notes j = A at hel hset hsk hlA ⊢
      generalize mapTo (dmgN (site, n) yes) notes (j + 1) = A' at hset hsk hgo
      obtain ⟨y1, y2, y3, y4⟩ := x
      simp only [ntC] at hel
      have hrj : inR .i64 ((j : Int) + 1) := by simp only [inR]; omega
      by_cases c1 : y1 = site ∧ y2 = n
      · obtain ⟨rfl, rfl⟩ := c1
        by_cases c2 : y3 = yes
        · have e := hsk (by simp [dmgN, c2])
          subst e
          simp (implicitDefEqProofs := false) (maxSteps := 10000000) [ir_recover_memory_one_b0, hjn', hel, hlA, c2, hrj]
          exact ⟨hjn, hgo _ ⟨[], by simp (implicitDefEqProofs := false) (maxSteps := 10000000)⟩⟩
        · have e : dmgN (y1, y2) yes ⟨y1, y2, y3, y4⟩ = ⟨y1, y2, y3, true⟩ := by simp [dmgN, c2]
          rw [e] at hset
          simp only [ntC] at hset
          have e2 : (y3 != yes) = true := by simpa using c2
          simp (implicitDefEqProofs := false) (maxSteps := 10000000) [ir_recover_memory_one_b0, hjn', hjn, hel, hlA, e2, c2, hrj]
          exact hgo _ ⟨[], by simp (implicitDefEqProofs := false) (maxSteps := 10000000) [hset]⟩
      · have e := hsk (by
          rw [dmgN, if_neg]
          simp only [Bool.and_eq_true, decide_eq_true_eq]
          exact fun h => c1 h.1)
        subst e
        have e1 : (y1 == site && y2 == n) = false := by
          rw [Bool.eq_false_iff]; simp only [ne_eq, Bool.and_eq_true, beq_iff_eq]; exact c1
        simp (implicitDefEqProofs := false) (maxSteps := 10000000) [ir_recover_memory_one_b0, hjn', hel, hlA, e1, hrj]
        exact ⟨hjn, hgo _ ⟨[], by simp (implicitDefEqProofs := false) (maxSteps := 10000000)⟩⟩
    · have hjn2 : j = notes.length := by omega
      subst hjn2
      clear hQ
      simp (implicitDefEqProofs := false) (maxSteps := 10000000) [ir_recover_memory_one_b0]
      exact hR _ [(0, some 1000000001), (1, some 1000000002)] (by simp (implicitDefEqProofs := false) (maxSteps := 10000000) [mapTo_all])
  · have f1 := mend_F me next s (site, n) yes (jobs.map jbC) (notes.map ntC)
    have p1 := mend_pre me next hf (site, n) yes (jobs.map jbC) (notes.map ntC)
    rw [mmStep, if_neg (by simp), if_neg (by simp), if_pos rfl] at hR
    simp only at hR
    generalize keepS (endS s (site, n) yes) s = u at f1 hR
    clear hf hs hB hr'
    obtain ⟨s1, s2, s3, s4⟩ := s
    obtain ⟨u1, u2, u3, u4⟩ := u
    simp only [stoC, txC, recC, List.singleton_append, List.cons_append, List.nil_append, List.map_append, List.map_cons, List.map_nil, ntC] at f1 p1 hR ⊢
    simp (implicitDefEqProofs := false) (maxSteps := 10000000) [ir_recover_memory_one, h2, x2, f1, p1]
    exact ⟨by omega, hR _ [(0, some 1000000001), (1, some 91)] (by simp (implicitDefEqProofs := false) (maxSteps := 10000000))⟩
  · have f1 := com_F me next (s.items.map itC) (s.locks.map lkC) (s.doubts.map dbC) (s.over.map txC) (notes.map ntC) jobs ⟨3, site, n, key, value, ask, yes, sites⟩
    have p1 := com_pre me next (s.items.map itC) (s.locks.map lkC) (s.doubts.map dbC) (s.over.map txC) (notes.map ntC) hs hB hjl hr'
    rw [mmStep, if_neg (by simp), if_neg (by simp), if_neg (by simp), if_pos rfl] at hR
    simp only at hR
    generalize comJ me next jobs ⟨3, site, n, key, value, ask, yes, sites⟩ = L at f1 hR
    clear hf hs hB hr'
    obtain ⟨s1, s2, s3, s4⟩ := s
    simp only [stoC, txC, recC, List.singleton_append, List.cons_append, List.nil_append] at f1 p1 hR ⊢
    simp (implicitDefEqProofs := false) (maxSteps := 10000000) [ir_recover_memory_one, h3, x3, f1, p1]
    exact hR _ [(0, some 990000), (1, some 1000000002)] (by simp (implicitDefEqProofs := false) (maxSteps := 10000000))
  · have f1 := DelJ_F jobs ⟨4, site, n, key, value, ask, yes, sites⟩ me next (s.items.map itC) (s.locks.map lkC) (s.doubts.map dbC) (s.over.map txC) (notes.map ntC)
    have p1 := DelJ_pre (l := jobs) (by omega) ⟨4, site, n, key, value, ask, yes, sites⟩ me next (s.items.map itC) (s.locks.map lkC) (s.doubts.map dbC) (s.over.map txC) (notes.map ntC)
    rw [mmStep, if_neg (by simp), if_neg (by simp), if_neg (by simp), if_neg (by simp), if_pos rfl] at hR
    simp only at hR
    generalize (jobs.filter fun x => !(goneJ me ⟨4, site, n, key, value, ask, yes, sites⟩ x)) = L at f1 hR
    clear hf hs hB hr'
    obtain ⟨s1, s2, s3, s4⟩ := s
    simp only [stoC, txC, recC, List.singleton_append, List.cons_append, List.nil_append] at f1 p1 hR ⊢
    simp (implicitDefEqProofs := false) (maxSteps := 10000000) [ir_recover_memory_one, h4, x4, f1, p1]
    exact hR _ [(0, some 1090000), (1, some 1000000002)] (by simp (implicitDefEqProofs := false) (maxSteps := 10000000))
  · rw [mmStep, if_neg (by simp), if_neg (by simp), if_neg (by simp), if_neg (by simp), if_neg (by simp)] at hR
    simp only at hR
    clear hf hs hB hr'
    have r1 : inR .i64 (n + 1) := by simp only [inR]; omega
    obtain ⟨s1, s2, s3, s4⟩ := s
    simp only [stoC, recC, List.singleton_append, List.cons_append, List.nil_append] at hR ⊢
    by_cases c : site = me
    · rw [if_pos c] at hR
      simp (implicitDefEqProofs := false) (maxSteps := 10000000) [ir_recover_memory_one, r1, c]
      exact hR _ [(0, some 1000000001), (1, some 1000000002)] (by simp (implicitDefEqProofs := false) (maxSteps := 10000000))
    · rw [if_neg c] at hR
      simp (implicitDefEqProofs := false) (maxSteps := 10000000) [ir_recover_memory_one, r1, c]
      exact hR _ [(0, some 1000000001), (1, some 1000000002)] (by simp (implicitDefEqProofs := false) (maxSteps := 10000000))
end
end Go.Proofs.YtpkabalijooeaaaDoor
