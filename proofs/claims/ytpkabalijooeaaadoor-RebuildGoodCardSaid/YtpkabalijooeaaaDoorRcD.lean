/-
  recover.Rebuild computes what its specification says. Conditions: those of its specification's 'pre', and that the functions that are called are what theirs say. (Printed by program.)
-/
import Derived.Test.YtpkabalijooeaaaDoorRcC
set_option linter.unusedVariables false
set_option linter.unusedSimpArgs false
namespace Go.Proofs.YtpkabalijooeaaaDoor
open Go Go.Vcg

theorem chkR_zero {s : Int} {ls : List (Int × Int)} {p : Int} {r : Rc} (h : chkR s ls p r = 0) : check s ls p = 0 ∧ 1 ≤ r.kind ∧ r.kind ≤ 6 ∧ okNums s r ∧ okUpto s r.sites r.sites.length ∧ okFormR r := by
  unfold chkR at h
  split at h
  · rename_i h1; exact absurd h h1
  · rename_i h1
    split at h
    · cases h
    · rename_i h2
      split at h
      · cases h
      · rename_i h3
        split at h
        · cases h
        · rename_i h4
          split at h
          · cases h
          · rename_i h5
            exact ⟨by simpa using h1, by omega, by omega, by simpa using h3, by simpa using h4, by simpa using h5⟩
theorem okUpto_ge {S : Int} {l : List Int} {j : Nat} (h : okUpto S l j) : ∀ i, i < j → (i : Int) ≤ l.getD i 0
  | 0, hi => by have := (h 0 hi).1; omega
  | i + 1, hi => by
    have h1 := okUpto_ge h i (by omega)
    have h2 := (h (i + 1) hi).2.2 (by omega)
    simp only [Nat.add_sub_cancel] at h2
    omega
theorem okUpto_len {S : Int} {l : List Int} (h : okUpto S l l.length) (hS : 0 ≤ S) : (l.length : Int) ≤ S := by
  by_cases h0 : l.length = 0
  · omega
  · have h1 := okUpto_ge h (l.length - 1) (by omega)
    have h2 := (h (l.length - 1) (by omega)).2.1
    omega
theorem sortJ_iff {l : List Jb} : sortJ l ↔ (l.map Jb.n).Pairwise (· < ·) := by
  rw [List.pairwise_map, List.pairwise_iff_getElem]
  rfl
theorem insJ_length {l : List Jb} {i : Nat} (x : Jb) (h : i ≤ l.length) : (insJ l i x).length = l.length + 1 := by
  simp [insJ]; omega
theorem insJ_get {l : List Jb} {i : Nat} (x : Jb) (h : i ≤ l.length) : (insJ l i x).getD i jb0 = x := by
  have hl : (l.take i).length = i := by simp; omega
  rw [insJ, List.append_assoc, List.getD, List.getElem?_append_right (by omega), hl, Nat.sub_self]
  rfl
theorem mem_insJ {l : List Jb} {i : Nat} {x y : Jb} (h : y ∈ insJ l i x) : y = x ∨ y ∈ l := by
  simp only [insJ, List.append_assoc, List.mem_append, List.mem_singleton] at h
  rcases h with h | h | h
  · exact .inr (List.mem_of_mem_take h)
  · exact .inl h
  · exact .inr (List.mem_of_mem_drop h)
theorem sortJ_ins {l : List Jb} (hs : sortJ l) {k : Int} (hk : hasJ l k = false) {x : Jb} (hx : x.n = k) : sortJ (insJ l (posJ l k) x) := by
  obtain ⟨hp, h1, h2⟩ := posJ_spec hs k
  have ha : ∀ y ∈ l.take (posJ l k), y.n < k := by
    intro y hy
    obtain ⟨i, hi, rfl⟩ := List.getElem_of_mem hy
    rw [List.getElem_take]
    rw [List.length_take] at hi
    exact h1 i (by omega) (by omega)
  have hb : ∀ y ∈ l.drop (posJ l k), k < y.n := by
    intro y hy
    have hne : y.n ≠ k := by
      intro he
      have := List.any_eq_false.1 hk y (List.mem_of_mem_drop hy)
      simp [he] at this
    obtain ⟨i, hi, rfl⟩ := List.getElem_of_mem hy
    rw [List.getElem_drop] at hne ⊢
    rw [List.length_drop] at hi
    have := h2 (posJ l k + i) (by omega) (by omega)
    omega
  have hpw : l.Pairwise (fun a b => a.n < b.n) := List.pairwise_iff_getElem.2 hs
  have hall : (insJ l (posJ l k) x).Pairwise (fun a b => a.n < b.n) := by
    rw [insJ, List.append_assoc, List.pairwise_append]
    refine ⟨hpw.sublist (List.take_sublist ..), ?_, ?_⟩
    · rw [List.singleton_append, List.pairwise_cons]
      exact ⟨fun y hy => by rw [hx]; exact hb y hy, hpw.sublist (List.drop_sublist ..)⟩
    · intro a ha' b hb'
      rw [List.singleton_append, List.mem_cons] at hb'
      rcases hb' with rfl | hb'
      · rw [hx]; exact ha a ha'
      · have := ha a ha'
        have := hb b hb'
        omega
  exact List.pairwise_iff_getElem.1 hall
/-- What holds of what so many records leave. -/
structure MmI (n : Nat) (m : Mm) : Prop where
  few : fewN m.s n
  sorted : sortJ m.jobs
  nums : ∀ x ∈ m.jobs, 0 ≤ x.n ∧ x.n ≤ 1048576
  room : m.jobs.length ≤ 6
  notes : m.notes.length ≤ n
theorem MmI.ok {n : Nat} {m : Mm} (h : MmI n m) (hn : n ≤ 100) : mmOk m := by
  have h1 := h.room
  have h2 := h.notes
  exact ⟨fewN_fewS' h.few hn, h.sorted, fun x hx => by have := h.nums x hx; omega, by omega, by omega⟩
theorem fewN_keep {x : Sto × Int} {s : Sto} {n : Nat} (h1 : fewN x.1 (n + 1)) (h2 : fewN s n) : fewN (keepS x s) (n + 1) := by
  rw [keepS]
  split
  · exact h1
  · exact fewN_mono h2 (by omega)
theorem mmI_step {n : Nat} {m : Mm} (h : MmI n m) (me : Int) {r : Rc} (hr : rcOk r) : MmI (n + 1) (mmStep me m r) := by
  obtain ⟨h1, h2, h3, h4, h5⟩ := h
  have h1' := fewN_mono h1 (Nat.le_succ n)
  have g1 := fewN_keep (fewN_write h1 (r.site, r.n) r.key r.value r.ask) h1
  have g2 := fewN_keep (fewN_end h1 (r.site, r.n) r.yes) h1
  unfold mmStep
  split
  · exact ⟨g1, h2, h3, h4, by simp only; omega⟩
  split
  · exact ⟨g2, h2, h3, h4, by simp only [List.length_map]; omega⟩
  split
  · exact ⟨g2, h2, h3, h4, by simp only [List.length_append, List.length_singleton]; omega⟩
  split
  · refine ⟨h1', ?_, ?_, ?_, by simp only; omega⟩
    · simp only [comJ]
      split
      · exact h2
      · rename_i hc
        have hh : hasJ m.jobs r.n = false := by
          cases hq : hasJ m.jobs r.n
          · rfl
          · exact absurd (.inl hq) hc
        exact sortJ_ins h2 hh rfl
    · simp only [comJ]
      split
      · exact h3
      · intro x hx
        rcases mem_insJ hx with rfl | hx
        · exact ⟨hr.2.2.1, hr.2.2.2.1⟩
        · exact h3 x hx
    · simp only [comJ]
      split
      · exact h4
      · rename_i hc
        rw [insJ_length _ (posJ_spec h2 _).1]
        have : m.jobs.length ≠ 6 := fun e => hc (.inr (.inr (.inr (.inr e))))
        omega
  split
  · refine ⟨h1', ?_, ?_, ?_, by simp only; omega⟩
    · rw [sortJ_iff] at h2 ⊢
      exact h2.sublist (List.filter_sublist.map _)
    · exact fun x hx => h3 x (List.mem_filter.1 hx).1
    · exact Nat.le_trans (List.length_filter_le _ _) h4
  · exact ⟨h1', h2, h3, h4, by simp only; omega⟩
def mm0 : Mm := ⟨s0, 1, [], []⟩
theorem mmI_0 : MmI 0 mm0 := ⟨fewN_s0 0, by intro i j hi; simp [mm0] at hi, by simp [mm0], by simp [mm0], by simp [mm0]⟩
noncomputable def mmAt (me : Int) (rs : List Rc) (j : Nat) : Mm := (rs.take j).foldl (mmStep me) mm0
noncomputable def mmOf (me : Int) (rs : List Rc) : Mm := rs.foldl (mmStep me) mm0
theorem mmAt_succ (me : Int) (rs : List Rc) {j : Nat} (h : j < rs.length) : mmAt me rs (j + 1) = mmStep me (mmAt me rs j) rs[j] := by
  rw [mmAt, List.take_succ_eq_append_getElem h, List.foldl_append]
  rfl
theorem mmAt_all (me : Int) (rs : List Rc) : mmAt me rs rs.length = mmOf me rs := by rw [mmAt, List.take_length]; rfl
theorem mmI_at (me : Int) {rs : List Rc} (hr : ∀ r ∈ rs, rcOk r) : ∀ j, j ≤ rs.length → MmI j (mmAt me rs j)
  | 0, _ => mmI_0
  | j + 1, h => by
    rw [mmAt_succ me rs (by omega)]
    exact mmI_step (mmI_at me hr j (by omega)) me (hr _ (List.getElem_mem _))
theorem check_zero {S P : Int} {ls : List (Int × Int)} (h : check S ls P = 0) : 1 ≤ S ∧ S ≤ 4 := by
  unfold check at h
  split at h
  · cases h
  · omega
theorem rcOk_of {S P : Int} {ls : List (Int × Int)} {r : Rc} (h : chkR S ls P r = 0) : rcOk r := by
  obtain ⟨h1, h2, h3, ⟨h4, _⟩, h5, _⟩ := chkR_zero h
  have hS := check_zero h1
  have := okUpto_len h5 (by omega)
  simp only [okTxn, Bool.and_eq_true, decide_eq_true_eq] at h4
  exact ⟨h2, h3, by omega, by omega, by omega⟩
theorem recs_of (l : List Rc) : lsOf recL (.fz 8 (l.map recC)) = l := lsOf_map recL_recC 8 l
noncomputable def rebD (S me : Int) (rs : List Rc) : D :=
  if me < 0 ∨ S ≤ me then .tup [.agg [.fz 3 [], .fz 6 [], .fz 3 [], .fz 2 []], .agg [.int .i64 0, .fz 6 []], .fz 4 [], .int .i64 2]
  else .tup [.agg (stoC (mmOf me rs).s), .agg [.int .i64 (mmOf me rs).next, .fz 6 ((mmOf me rs).jobs.map jbC)], .fz 4 ((mmOf me rs).notes.map ntC), .int .i64 0]
noncomputable def sp_Rebuild : Sp := { pre := fun ds => ∃ (S : Int) (ls : List (Int × Int)) (P me : Int) (rs : List Rc), ds = [cfgD S ls P, .int .i64 me, .fz 8 (rs.map recC)] ∧ check S ls P = 0 ∧ (∀ r ∈ rs, chkR S ls P r = 0) ∧ rs.length ≤ 100, F := fun | [x, .int _ me, l] => rebD (cfgOf x).1 me (lsOf recL l) | _ => .any }
theorem rebuild_F (S : Int) (ls : List (Int × Int)) (P me : Int) (rs : List Rc) : sp_Rebuild.F [cfgD S ls P, .int .i64 me, .fz 8 (rs.map recC)] = rebD S me rs := by
  simp only [sp_Rebuild, recs_of, cfgOf_cfgD]
theorem rebuild_pre {S : Int} {ls : List (Int × Int)} {P : Int} (me : Int) {rs : List Rc} (h0 : check S ls P = 0) (h : ∀ r ∈ rs, chkR S ls P r = 0) (hl : rs.length ≤ 100) : sp_Rebuild.pre [cfgD S ls P, .int .i64 me, .fz 8 (rs.map recC)] = True := by
  simp only [sp_Rebuild, eq_iff_iff, iff_true]; exact ⟨S, ls, P, me, rs, rfl, h0, h, hl⟩
theorem isCfg_mk (S : Int) (ls : List (Int × Int)) (P : Int) : isCfg (cfgD S ls P) = true := by
  simp [isCfg, cfgD, isLb_lbc]
theorem crec_F (S : Int) (ls : List (Int × Int)) (P : Int) (r : Rc) : sp_CheckRecord.F [cfgD S ls P, .agg (recC r)] = .int .i64 (chkR S ls P r) := by
  have e2 : recOf (.agg (recC r)) = r := recOf_recD r
  simp only [sp_CheckRecord, cfgOf_cfgD, e2]
theorem crec_pre (S : Int) (ls : List (Int × Int)) (P : Int) {r : Rc} (h : r.sites.length ≤ 1000) : sp_CheckRecord.pre [cfgD S ls P, .agg (recC r)] = True := by
  simp only [sp_CheckRecord, eq_iff_iff, iff_true]
  exact ⟨_, r, rfl, isCfg_mk S ls P, by omega⟩
section
variable {T : Tb}
attribute [local simp] k_seq k_block k_skip k_reg k_alt k_cond k_exit k_ret kf_nil kf_seq_n kf_seq_e kf_seq_r kf_blk_n kf_blk_e kf_blk_r kf_lp_n kf_lp_e kf_lp_r kf_cut_n kf_cut_e kf_cut_r mkTm VCops VCalt istep act gd applyE wrapD Opd.ev get_mk set_mk set_mk0 tget16 tset16 tget_0 tset_0 tget_1 tset_1 tget_2 tset_2 tget_3 tset_3 tget_4 tset_4 tget_5 tset_5 tget_6 tset_6 tget_7 tset_7 tget_8 tset_8 tget_9 tset_9 tget_10 tset_10 tget_11 tset_11 tget_12 tset_12 tget_13 tset_13 tget_14 tset_14 tget_15 tset_15 D.un D.gu gus IOp.opds binD fnPost getRes IRes.get oneRes D.out outL D.clos closL D.norow norowL D.lv lvL D.scal scalL D.cells D.cell D.cell' St.lk obPut obDel List.lookup cut pickD splice fillParts fillRows elem_cons newsOf D.pl D.forget forgetL Ob.forget forgetO eqCells sg leD leDL leOb apartK St.le D.keys keysL D.rows rowsL obKeys addKeys reach pos D.ren renL Ob.ren inM outM inObs outObs goneK apartN okNames_eq okNms obNms namesOK_nil namesOK_cons freeOK_nil freeOK_cons D.frz frzL Ob.frz frzO St.frz forgetLs dropObs putObs hcall freeOf keeps baseN shD isShift shMax k_bad VCopsG frz_nil actx actc cnum vwCut St.frzT St.opnT St.clsT D.opn opnL Ob.opn opnO
set_option maxRecDepth 100000 in
set_option maxHeartbeats 16000000 in
theorem v_Rebuild (h1 : T.sp n_label_Check = some sp_Check) (h2 : T.sp n_wire_CheckRecord = some sp_CheckRecord) (h3 : T.sp n_recover_memory_one = some sp_mone) : Verified T ir_recover_Rebuild sp_Rebuild := by
  refine Verified.mk ?_
  rintro ds ⟨S, ls, P, me, rs, rfl, hc, hrs, hlen⟩
  rw [rebuild_F]
  have x1 : sp_Check.hx = none := rfl
  have x2 : sp_CheckRecord.hx = none := rfl
  have x3 : sp_mone.hx = some hs_mone := rfl
  have f1 : sp_Check.F [cfgD S ls P] = .int .i64 0 := by simp only [sp_Check, cfgOf_cfgD, hc]
  have p1 : sp_Check.pre [cfgD S ls P] = True := by
    simp only [sp_Check, eq_iff_iff, iff_true]; exact ⟨_, rfl, isCfg_mk S ls P⟩
  have hrc : ∀ r ∈ rs, rcOk r := fun r hr => rcOk_of (hrs r hr)
  rw [rebD]
  simp only [cfgD] at f1 p1 ⊢
  by_cases hm0 : me < 0
  · rw [if_pos (.inl hm0)]
    simp (implicitDefEqProofs := false) (maxSteps := 10000000) [ir_recover_Rebuild, h1, x1, f1, p1, hm0]
  by_cases hm1 : S ≤ me
  · rw [if_pos (.inr hm1)]
    simp (implicitDefEqProofs := false) (maxSteps := 10000000) [ir_recover_Rebuild, h1, x1, f1, p1, hm0, hm1]
  rw [if_neg (by omega)]
  simp (implicitDefEqProofs := false) (maxSteps := 10000000) [ir_recover_Rebuild, h1, x1, f1, p1, hm0, hm1]
  refine k_loop (ι := {j : Nat // j ≤ rs.length}) (fun x => ⟨mkTm 75 0 [(1, .int .i64 me), (2, .fz 8 (rs.map recC)), (3, .own 3 0), (6, .own 6 0), (7, .own 7 0), (8, .nl 4), (9, .int .i64 0), (34, .fz 8 (rs.map recC)), (35, .int .i64 rs.length), (36, .int .i64 x.1)], [(3, .box [.int .i64 S, .fz 2 (ls.map lbc), .int .i64 P]), (6, .box [.nl 3, .nl 6, .nl 3, .nl 2]), (7, .box [.int .i64 0, .nl 6])]⟩)
    (fun x => rs.length - x.1) [] ⟨0, by omega⟩ (by simp (implicitDefEqProofs := false) (maxSteps := 10000000)) ?_
  rintro ⟨j, hj⟩ Q hQ
  by_cases hjl : j < rs.length
  · have hjl' : (j : Int) < rs.length := by omega
    have hel := elem_map recC rs j hjl
    have hch := hrs rs[j] (List.getElem_mem hjl)
    have f2 := crec_F S ls P rs[j]
    have p2 := crec_pre S ls P (hrc rs[j] (List.getElem_mem hjl)).2.2.2.2
    rw [hch] at f2
    clear hch hrs hrc
    generalize rs[j] = r at hel f2 p2
    obtain ⟨y1, y2, y3, y4, y5, y6, y7, y8⟩ := r
    simp only [recC, cfgD] at hel f2 p2
    simp (implicitDefEqProofs := false) (maxSteps := 10000000) [ir_recover_Rebuild_b0, hjl', hjl, hel, h2, x2, f2, p2]
    exact ⟨by simp only [inR]; omega, hQ _ [] ⟨j + 1, by omega⟩ (by simp (implicitDefEqProofs := false) (maxSteps := 10000000)) (by simp only; omega)⟩
  · have hjn : j = rs.length := by omega
    subst hjn
    clear hQ
    simp (implicitDefEqProofs := false) (maxSteps := 10000000) [ir_recover_Rebuild_b0, ir_recover_Rebuild_r3]
    refine k_loop (ι := {j : Nat // j ≤ rs.length}) (fun x => ⟨mkTm 75 0 [(6, .own 6 0), (7, .own 7 0), (14, .own 52 0), (53, .fz 8 (rs.map recC)), (54, .int .i64 rs.length), (55, .int .i64 x.1)], [(6, .box [.nl 3, .nl 6, .nl 3, .nl 2]), (7, .box [.int .i64 0, .nl 6]), (52, .box ([.int .i64 me] ++ stoC (mmAt me rs x.1).s ++ [.int .i64 (mmAt me rs x.1).next, .row 200, .row 201])), (200, .row 6 ((mmAt me rs x.1).jobs.map jbC)), (201, .row 4 ((mmAt me rs x.1).notes.map ntC))]⟩)
      (fun x => rs.length - x.1) [(200, none), (201, none)] ⟨0, by omega⟩ (by
        have e : mmAt me rs 0 = mm0 := rfl
        simp only [e, mm0, s0, stoC, List.singleton_append, List.cons_append, List.nil_append, List.map_nil]
        simp (implicitDefEqProofs := false) (maxSteps := 10000000)) ?_
    rintro ⟨j, hj⟩ Q hQ
    by_cases hjl : j < rs.length
    · have hjl' : (j : Int) < rs.length := by omega
      have hel := elem_map recC rs j hjl
      have hok := (mmI_at me hrc j hj).ok (by omega)
      have hr := hrc rs[j] (List.getElem_mem hjl)
      have hst := mmAt_succ me rs hjl
      have f3 := mone_F me (mmAt me rs j) rs[j]
      have p3 := mone_pre me hok hr
      have hg := fun s' σ => hQ s' σ ⟨j + 1, by omega⟩
      have hlt2 : rs.length - (j + 1) < rs.length - j := by omega
      simp only [hst] at hg
      clear hQ hrs hrc hok hr hst
      generalize mmStep me (mmAt me rs j) rs[j] = N at f3 hg
      generalize mmAt me rs j = M at f3 p3 ⊢
      generalize rs[j] = r at hel f3 p3
      obtain ⟨y1, y2, y3, y4, y5, y6, y7, y8⟩ := r
      obtain ⟨⟨a1, a2, a3, a4⟩, mn, mj, mt⟩ := M
      obtain ⟨⟨b1, b2, b3, b4⟩, nn, nj, nt⟩ := N
      simp only [stoC, recC, List.singleton_append, List.cons_append, List.nil_append] at hel f3 p3 hg ⊢
      simp (implicitDefEqProofs := false) (maxSteps := 10000000) [ir_recover_Rebuild_b1, hjl', hjl, hel, h3, x3, f3, p3]
      exact ⟨by simp only [inR]; omega, hg _ [(200, some 620000), (201, some 620001)] (by simp (implicitDefEqProofs := false) (maxSteps := 10000000)) hlt2⟩
    · have hjn : j = rs.length := by omega
      subst hjn
      rw [mmAt_all]
      clear hQ hrs hrc
      generalize mmOf me rs = M
      obtain ⟨⟨a1, a2, a3, a4⟩, mn, mj, mt⟩ := M
      simp only [stoC, List.singleton_append, List.cons_append, List.nil_append]
      simp (implicitDefEqProofs := false) (maxSteps := 10000000) [ir_recover_Rebuild_b1, ir_recover_Rebuild_r2]
end
end Go.Proofs.YtpkabalijooeaaaDoor
