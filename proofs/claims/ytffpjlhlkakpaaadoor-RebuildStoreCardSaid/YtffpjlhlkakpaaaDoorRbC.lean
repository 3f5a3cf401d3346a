/-
  recover.Rebuild computes what its specification says, for records of three kinds. Conditions: those of its specification's 'pre', and that the functions that are called are what theirs say.
-/
import Derived.Test.YtffpjlhlkakpaaaDoorRbB
set_option linter.unusedVariables false
set_option linter.unusedSimpArgs false
namespace Go.Proofs.YtffpjlhlkakpaaaDoor
open Go Go.Vcg

noncomputable def memAt (rs : List Rc) (j : Nat) : Mem := (rs.take j).foldl memStep ⟨s0, 1⟩
theorem memAt_succ (rs : List Rc) {j : Nat} (h : j < rs.length) : memAt rs (j + 1) = memStep (memAt rs j) rs[j] := by
  rw [memAt, List.take_succ_eq_append_getElem h, List.foldl_append]
  rfl
theorem recs_of (l : List Rc) : lsOf recL (.fz 8 (l.map recC)) = l := lsOf_map recL_recC 8 l
noncomputable def sp_Rebuild : Sp := { pre := fun ds => ∃ rs : List Rc, ds = [.agg (twoC 1 3), .int .i64 0, .fz 8 (rs.map recC)] ∧ (∀ j (h : j < rs.length), memOk (memAt rs j) rs[j] ∧ chkR 1 [(0, 0), (1, 0)] 3 rs[j] = 0) ∧ rs.length ≤ 100, F := fun | [_, _, l] => .tup [.agg (stoC (memAt (lsOf recL l) (lsOf recL l).length).s), .agg [.int .i64 (memAt (lsOf recL l) (lsOf recL l).length).next, .fz 6 []], .fz 4 [], .int .i64 0] | _ => .any }
theorem rebuild_F (rs : List Rc) : sp_Rebuild.F [.agg (twoC 1 3), .int .i64 0, .fz 8 (rs.map recC)] = .tup [.agg (stoC (memAt rs rs.length).s), .agg [.int .i64 (memAt rs rs.length).next, .fz 6 []], .fz 4 [], .int .i64 0] := by
  simp only [sp_Rebuild, recs_of]
theorem rebuild_pre {rs : List Rc} (h : ∀ j (h : j < rs.length), memOk (memAt rs j) rs[j] ∧ chkR 1 [(0, 0), (1, 0)] 3 rs[j] = 0) (hl : rs.length ≤ 100) : sp_Rebuild.pre [.agg (twoC 1 3), .int .i64 0, .fz 8 (rs.map recC)] = True := by
  simp only [sp_Rebuild, eq_iff_iff, iff_true]; exact ⟨rs, rfl, h, hl⟩
theorem crec_F (r : Rc) : sp_CheckRecord.F [.agg (twoC 1 3), .agg (recC r)] = .int .i64 (chkR 1 [(0, 0), (1, 0)] 3 r) := by
  have e : D.agg (twoC 1 3) = cfgD 1 [(0, 0), (1, 0)] 3 := rfl
  have e2 : recOf (.agg (recC r)) = r := recOf_recD r
  simp only [e, sp_CheckRecord, cfgOf_cfgD, e2]
theorem crec_pre {r : Rc} (h : r.sites = []) : sp_CheckRecord.pre [.agg (twoC 1 3), .agg (recC r)] = True := by
  simp only [sp_CheckRecord, eq_iff_iff, iff_true]
  exact ⟨_, r, rfl, rfl, by rw [h]; decide⟩
/-- Four cells that say a store. -/
def isC4 (a b c d : D) (s : Sto) : Prop := (a = .fz 3 (s.items.map itC) ∧ b = .fz 6 (s.locks.map lkC) ∧ c = .fz 3 (s.doubts.map dbC) ∧ d = .fz 2 (s.over.map txC)) ∨ (a = .nl 3 ∧ b = .nl 6 ∧ c = .nl 3 ∧ d = .nl 2 ∧ s = s0)
section
variable {T : Tb}
attribute [local simp] k_seq k_block k_skip k_reg k_alt k_cond k_exit k_ret kf_nil kf_seq_n kf_seq_e kf_seq_r kf_blk_n kf_blk_e kf_blk_r kf_lp_n kf_lp_e kf_lp_r kf_cut_n kf_cut_e kf_cut_r mkTm VCops VCalt istep act gd applyE wrapD Opd.ev get_mk set_mk set_mk0 tget16 tset16 tget_0 tset_0 tget_1 tset_1 tget_2 tset_2 tget_3 tset_3 tget_4 tset_4 tget_5 tset_5 tget_6 tset_6 tget_7 tset_7 tget_8 tset_8 tget_9 tset_9 tget_10 tset_10 tget_11 tset_11 tget_12 tset_12 tget_13 tset_13 tget_14 tset_14 tget_15 tset_15 D.un D.gu gus IOp.opds binD fnPost getRes IRes.get oneRes D.out outL D.clos closL D.norow norowL D.lv lvL D.scal scalL D.cells D.cell D.cell' St.lk obPut obDel List.lookup cut pickD splice fillParts fillRows elem_cons newsOf D.pl D.forget forgetL Ob.forget forgetO eqCells sg leD leDL leOb apartK St.le D.keys keysL D.rows rowsL obKeys addKeys reach pos D.ren renL Ob.ren inM outM inObs outObs goneK apartN okNames_eq okNms obNms namesOK_nil namesOK_cons freeOK_nil freeOK_cons D.frz frzL Ob.frz frzO St.frz forgetLs dropObs putObs hcall freeOf keeps baseN shD isShift shMax k_bad VCopsG frz_nil actx actc cnum vwCut St.frzT St.opnT St.clsT D.opn opnL Ob.opn opnO
set_option maxRecDepth 100000 in
set_option maxHeartbeats 16000000 in
theorem v_Rebuild (h1 : T.sp n_label_Check = some sp_Check) (h2 : T.sp n_wire_CheckRecord = some sp_CheckRecord) (h3 : T.sp n_recover_memory_one = some sp_mone) : Verified T ir_recover_Rebuild sp_Rebuild := by
  refine Verified.mk ?_
  rintro ds ⟨rs, rfl, hrs, hlen⟩
  rw [rebuild_F]
  have x1 : sp_Check.hx = none := rfl
  have x2 : sp_CheckRecord.hx = none := rfl
  have x3 : sp_mone.hx = some hs_mone := rfl
  have f1 := lcheck_F (S := 1) (P := 3) (by omega) (by omega)
  have p1 := lcheck_pre 1 3
  simp only [twoC] at f1 p1 ⊢
  simp (implicitDefEqProofs := false) (maxSteps := 10000000) [ir_recover_Rebuild, h1, x1, f1, p1]
  refine k_loop (ι := {j : Nat // j ≤ rs.length}) (fun x => ⟨mkTm 75 0 [(1, .int .i64 0), (2, .fz 8 (rs.map recC)), (3, .own 3 0), (6, .own 6 0), (7, .own 7 0), (8, .nl 4), (9, .int .i64 0), (34, .fz 8 (rs.map recC)), (35, .int .i64 rs.length), (36, .int .i64 x.1)], [(3, .box [.int .i64 1, .fz 2 [[.int .i64 0, .int .i64 0], [.int .i64 1, .int .i64 0]], .int .i64 3]), (6, .box [.nl 3, .nl 6, .nl 3, .nl 2]), (7, .box [.int .i64 0, .nl 6])]⟩)
    (fun x => rs.length - x.1) [] ⟨0, by omega⟩ (by simp (implicitDefEqProofs := false) (maxSteps := 10000000)) ?_
  rintro ⟨j, hj⟩ Q hQ
  by_cases hjl : j < rs.length
  · have hjl' : (j : Int) < rs.length := by omega
    have hel := elem_map recC rs j hjl
    obtain ⟨⟨_, hsi, _⟩, hch⟩ := hrs j hjl
    have f2 := crec_F rs[j]
    have p2 := crec_pre hsi
    rw [hch] at f2
    clear hch hrs
    generalize rs[j] = r at hel f2 p2 hsi
    obtain ⟨y1, y2, y3, y4, y5, y6, y7, y8⟩ := r
    simp only at hsi
    subst hsi
    simp only [recC, twoC, List.map_nil] at hel f2 p2
    simp (implicitDefEqProofs := false) (maxSteps := 10000000) [ir_recover_Rebuild_b0, hjl', hjl, hel, h2, x2, f2, p2]
    exact ⟨by simp only [inR]; omega, hQ _ [] ⟨j + 1, by omega⟩ (by simp (implicitDefEqProofs := false) (maxSteps := 10000000)) (by simp only; omega)⟩
  · have hjn : j = rs.length := by omega
    subst hjn
    clear hQ
    simp (implicitDefEqProofs := false) (maxSteps := 10000000) [ir_recover_Rebuild_b0, ir_recover_Rebuild_r3]
    refine k_loop (ι := {p : Nat × D × D × D × D // p.1 ≤ rs.length ∧ isC4 p.2.1 p.2.2.1 p.2.2.2.1 p.2.2.2.2 (memAt rs p.1).s}) (fun x => ⟨mkTm 75 0 [(6, .own 6 0), (7, .own 7 0), (14, .own 52 0), (53, .fz 8 (rs.map recC)), (54, .int .i64 rs.length), (55, .int .i64 x.1.1)], [(6, .box [.nl 3, .nl 6, .nl 3, .nl 2]), (7, .box [.int .i64 0, .nl 6]), (52, .box [.int .i64 0, x.1.2.1, x.1.2.2.1, x.1.2.2.2.1, x.1.2.2.2.2, .int .i64 (memAt rs x.1.1).next, .nl 6, .nl 4])]⟩)
      (fun x => rs.length - x.1.1) [] ⟨(0, .nl 3, .nl 6, .nl 3, .nl 2), by simp, .inr ⟨rfl, rfl, rfl, rfl, rfl⟩⟩ (by
        have e : memAt rs 0 = ⟨s0, 1⟩ := by simp [memAt]
        simp only [e]
        simp (implicitDefEqProofs := false) (maxSteps := 10000000)) ?_
    rintro ⟨⟨j, a, b, c, d⟩, hj', hx⟩ Q hQ
    simp only at hj' hx hQ ⊢
    by_cases hjl : j < rs.length
    · have hjl' : (j : Int) < rs.length := by omega
      have hel := elem_map recC rs j hjl
      obtain ⟨hok, _⟩ := hrs j hjl
      have hst := memAt_succ rs hjl
      have hgo : ∀ (M : Mem) (a' b' c' d' : D), M = memAt rs (j + 1) → isC4 a' b' c' d' M.s → ∀ s', (∃ σ, St.le σ s' ⟨mkTm 75 0 [(6, .own 6 0), (7, .own 7 0), (14, .own 52 0), (53, .fz 8 (rs.map recC)), (54, .int .i64 rs.length), (55, .int .i64 (j + 1 : Nat))], [(6, .box [.nl 3, .nl 6, .nl 3, .nl 2]), (7, .box [.int .i64 0, .nl 6]), (52, .box [.int .i64 0, a', b', c', d', .int .i64 M.next, .nl 6, .nl 4])]⟩) → Q s' := by
        rintro M a' b' c' d' rfl hi s' ⟨σ, hs'⟩
        exact hQ s' σ ⟨(j + 1, a', b', c', d'), by simp only; omega, hi⟩ hs' (by simp only; omega)
      clear hQ hrs
      generalize rs[j] = r at hel hok hst
      generalize memAt rs (j + 1) = M2 at hst hgo
      generalize memAt rs j = M at hok hst hx ⊢
      have hsi := hok.2.1
      have hkk : r.kind = 5 ∨ ¬ r.kind = 5 := by omega
      rcases hx with ⟨rfl, rfl, rfl, rfl⟩ | ⟨rfl, rfl, rfl, rfl, hs0⟩
      · have hcs : isCs (stoC M.s) M.s := .inl rfl
        have f3 := mone_F hcs r
        have p3 := mone_pre hcs hok
        rcases hkk with hkk | hkk
        · have hs' : (memStep M r).s = M.s := by rw [memStep, if_neg (by omega), if_neg (by omega)]
          rw [if_pos hkk] at f3
          have hg := hgo (memStep M r) _ _ _ _ hst.symm (.inl ⟨rfl, rfl, rfl, rfl⟩)
          rw [hs'] at hg
          generalize (memStep M r).next = nx at f3 hg
          clear hgo hst hs' hok hkk hcs
          obtain ⟨y1, y2, y3, y4, y5, y6, y7, y8⟩ := r
          simp only at hsi
          subst hsi
          obtain ⟨⟨s1, s2, s3, s4⟩, nn⟩ := M
          simp only [stoC, recC, List.map_nil, List.singleton_append, List.cons_append, List.nil_append] at hel f3 p3 hg ⊢
          simp (implicitDefEqProofs := false) (maxSteps := 10000000) [ir_recover_Rebuild_b1, hjl', hjl, hel, h3, x3, f3, p3]
          exact ⟨by simp only [inR]; omega, hg _ ⟨[], by simp (implicitDefEqProofs := false) (maxSteps := 10000000)⟩⟩
        · rw [if_neg hkk] at f3
          have hg := hgo (memStep M r) _ _ _ _ hst.symm (.inl ⟨rfl, rfl, rfl, rfl⟩)
          generalize memStep M r = N at f3 hg
          clear hgo hst hok hkk hcs
          obtain ⟨y1, y2, y3, y4, y5, y6, y7, y8⟩ := r
          simp only at hsi
          subst hsi
          obtain ⟨⟨s1, s2, s3, s4⟩, nn⟩ := M
          obtain ⟨⟨u1, u2, u3, u4⟩, un⟩ := N
          simp only [stoC, recC, List.map_nil, List.singleton_append, List.cons_append, List.nil_append] at hel f3 p3 hg ⊢
          simp (implicitDefEqProofs := false) (maxSteps := 10000000) [ir_recover_Rebuild_b1, hjl', hjl, hel, h3, x3, f3, p3]
          exact ⟨by simp only [inR]; omega, hg _ ⟨[], by simp (implicitDefEqProofs := false) (maxSteps := 10000000)⟩⟩
      · have hcs : isCs [.nl 3, .nl 6, .nl 3, .nl 2] M.s := .inr ⟨rfl, hs0⟩
        have f3 := mone_F hcs r
        have p3 := mone_pre hcs hok
        rcases hkk with hkk | hkk
        · have hs' : (memStep M r).s = s0 := by rw [memStep, if_neg (by omega), if_neg (by omega)]; exact hs0
          rw [if_pos hkk] at f3
          have hg := hgo (memStep M r) (.nl 3) (.nl 6) (.nl 3) (.nl 2) hst.symm (.inr ⟨rfl, rfl, rfl, rfl, hs'⟩)
          generalize (memStep M r).next = nx at f3 hg
          clear hgo hst hs' hok hkk hcs
          obtain ⟨y1, y2, y3, y4, y5, y6, y7, y8⟩ := r
          simp only at hsi
          subst hsi
          simp only [recC, List.map_nil, List.singleton_append, List.cons_append, List.nil_append] at hel f3 p3 hg ⊢
          simp (implicitDefEqProofs := false) (maxSteps := 10000000) [ir_recover_Rebuild_b1, hjl', hjl, hel, h3, x3, f3, p3]
          exact ⟨by simp only [inR]; omega, hg _ ⟨[], by simp (implicitDefEqProofs := false) (maxSteps := 10000000)⟩⟩
        · rw [if_neg hkk] at f3
          have hg := hgo (memStep M r) _ _ _ _ hst.symm (.inl ⟨rfl, rfl, rfl, rfl⟩)
          generalize memStep M r = N at f3 hg
          clear hgo hst hok hkk hcs
          obtain ⟨y1, y2, y3, y4, y5, y6, y7, y8⟩ := r
          simp only at hsi
          subst hsi
          obtain ⟨⟨u1, u2, u3, u4⟩, un⟩ := N
          simp only [stoC, recC, List.map_nil, List.singleton_append, List.cons_append, List.nil_append] at hel f3 p3 hg ⊢
          simp (implicitDefEqProofs := false) (maxSteps := 10000000) [ir_recover_Rebuild_b1, hjl', hjl, hel, h3, x3, f3, p3]
          exact ⟨by simp only [inR]; omega, hg _ ⟨[], by simp (implicitDefEqProofs := false) (maxSteps := 10000000)⟩⟩
    · have hjn : j = rs.length := by omega
      subst hjn
      clear hQ hrs
      generalize memAt rs rs.length = M at hx ⊢
      obtain ⟨s, nx⟩ := M
      simp only at hx ⊢
      rcases hx with ⟨rfl, rfl, rfl, rfl⟩ | ⟨rfl, rfl, rfl, rfl, rfl⟩
      · simp only [stoC]
        simp (implicitDefEqProofs := false) (maxSteps := 10000000) [ir_recover_Rebuild_b1, ir_recover_Rebuild_r2]
      · simp only [stoC, s0, List.map_nil]
        simp (implicitDefEqProofs := false) (maxSteps := 10000000) [ir_recover_Rebuild_b1, ir_recover_Rebuild_r2]
end
end Go.Proofs.YtffpjlhlkakpaaaDoor
