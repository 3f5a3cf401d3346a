/-
  site.decide computes what its specification says. Conditions: those of its specification's 'pre', and that the functions that are called are what theirs say.
-/
import Derived.Test.YtilahimnineigaaDoorPtF
import Derived.Test.YtilahimnineigaaDoorPtB
set_option linter.unusedVariables false
set_option linter.unusedSimpArgs false
namespace Go.Proofs.YtilahimnineigaaDoor
open Go Go.Vcg

/-- Damage that a decision does to a note. -/
def dmg (m : Ms) (x : Nt) : Bool := decide (x.site = m.site ∧ x.n = m.n) && (x.yes != m.yes) && !x.dam
def noteD (m : Ms) (x : Nt) : Nt := if dmg m x = true then { x with dam := true } else x
noncomputable def decA (a : Sto) (me : Int) (m : Ms) (ns : List Nt) : Ans := ((endS a (m.site, m.n) m.yes).1, [ansM me m 8], if 0 < (writesS a (m.site, m.n)).1 ∨ ns.any (dmg m) = true then [recC 2 (m.site, m.n) m.yes] else [])
noncomputable def hs_decide : HSp := {
  pre := fun ds ob => ∃ (S P me : Int) (a : Sto) (y : List D) (m : Ms) (ns : List Nt), ds = [.ad 6 [siteC S P 0 me (stoC a) y] 0 0, .agg (msgC m), .row 1000000000] ∧ ob = [(1000000000, .row 4 (ns.map ntC))] ∧ fewS' a ∧ ns.length ≤ 100
  F := fun ds ob => match ds, ob with
    | [.ad _ [[_, _, _, _, .int _ me, .fz _ [a, _]]] _ _, .agg m, _], [(_, .row _ es)] => (.agg (ansD (decA (stoOf (.agg a)) me (msgL m) (es.map ntOf)) []), [(1000000000, .row 4 (es.map fun e => ntC (noteD (msgL m) (ntOf e))))])
    | _, _ => (.any, []) }
noncomputable def sp_decide : Sp := { pre := fun _ => True, F := fun _ => .any, hx := some hs_decide }
theorem decide_F (S P me : Int) (a : Sto) (y : List D) (m : Ms) (ns : List Nt) : hs_decide.F [.ad 6 [siteC S P 0 me (stoC a) y] 0 0, .agg (msgC m), .row 1000000000] [(1000000000, .row 4 (ns.map ntC))] = (.agg (ansD (decA a me m ns) []), [(1000000000, .row 4 ((ns.map (noteD m)).map ntC))]) := by
  have e : stoOf (.agg (stoC a)) = a := stoOf_stoD a
  have e2 : msgL (msgC m) = m := rfl
  have e3 : (ns.map ntC).map ntOf = ns := by
    rw [List.map_map]
    have : ntOf ∘ ntC = id := rfl
    rw [this, List.map_id]
  have e4 : (ns.map ntC).map (fun e => ntC (noteD m (ntOf e))) = (ns.map (noteD m)).map ntC := by
    rw [List.map_map, List.map_map]
    rfl
  simp only [hs_decide, siteC, e, e2, e3, e4]
theorem decide_pre (S P me : Int) {a : Sto} (y : List D) (m : Ms) {ns : List Nt} (h1 : fewS' a) (h2 : ns.length ≤ 100) : hs_decide.pre [.ad 6 [siteC S P 0 me (stoC a) y] 0 0, .agg (msgC m), .row 1000000000] [(1000000000, .row 4 (ns.map ntC))] = True := by
  simp only [hs_decide, eq_iff_iff, iff_true]; exact ⟨S, P, me, a, y, m, ns, rfl, rfl, h1, h2⟩
def notesTo (m : Ms) (l : List Nt) (j : Nat) : List Nt := (l.take j).map (noteD m) ++ l.drop j
theorem length_notesTo (m : Ms) (l : List Nt) (j : Nat) : (notesTo m l j).length = l.length := by simp [notesTo]; omega
theorem notesTo_zero (m : Ms) (l : List Nt) : notesTo m l 0 = l := by simp [notesTo]
theorem notesTo_all (m : Ms) (l : List Nt) : notesTo m l l.length = l.map (noteD m) := by simp [notesTo]
theorem notesTo_get (m : Ms) (l : List Nt) (j : Nat) (h : j < l.length) : (notesTo m l j)[j]'(by rw [length_notesTo]; exact h) = l[j] := by
  simp only [notesTo]
  rw [List.getElem_append_right (by simp; omega)]
  simp [Nat.min_eq_left (Nat.le_of_lt h)]
theorem notesTo_set (m : Ms) (l : List Nt) (j : Nat) (h : j < l.length) : (notesTo m l j).set j (noteD m l[j]) = notesTo m l (j + 1) := by
  have hl : ((l.take j).map (noteD m)).length = j := by simp; omega
  rw [notesTo, List.set_append_right _ _ (by omega), hl, Nat.sub_self, List.drop_eq_getElem_cons h, List.set_cons_zero, notesTo, List.take_succ_eq_append_getElem h]
  simp only [List.map_append, List.map_cons, List.map_nil, List.append_assoc, List.singleton_append]
theorem notesTo_same (m : Ms) (l : List Nt) (j : Nat) (h : j < l.length) (e : noteD m l[j] = l[j]) : notesTo m l (j + 1) = notesTo m l j := by
  rw [← notesTo_set m l j h, e]
  have h' : j < (notesTo m l j).length := by rw [length_notesTo]; exact h
  have : l[j] = (notesTo m l j)[j] := (notesTo_get m l j h).symm
  rw [this, List.set_getElem_self]
def anyTo (m : Ms) (l : List Nt) (j : Nat) : Bool := (l.take j).any (dmg m)
theorem anyTo_succ (m : Ms) (l : List Nt) (j : Nat) (h : j < l.length) : anyTo m l (j + 1) = (anyTo m l j || dmg m l[j]) := by
  rw [anyTo, List.take_succ_eq_append_getElem h, List.any_append]
  simp [anyTo]
section
variable {T : Tb}
attribute [local simp] k_seq k_block k_skip k_reg k_alt k_cond k_exit k_ret kf_nil kf_seq_n kf_seq_e kf_seq_r kf_blk_n kf_blk_e kf_blk_r kf_lp_n kf_lp_e kf_lp_r kf_cut_n kf_cut_e kf_cut_r mkTm VCops VCalt istep act gd applyE wrapD Opd.ev get_mk set_mk set_mk0 tget16 tset16 tget_0 tset_0 tget_1 tset_1 tget_2 tset_2 tget_3 tset_3 tget_4 tset_4 tget_5 tset_5 tget_6 tset_6 tget_7 tset_7 tget_8 tset_8 tget_9 tset_9 tget_10 tset_10 tget_11 tset_11 tget_12 tset_12 tget_13 tset_13 tget_14 tset_14 tget_15 tset_15 D.un D.gu gus IOp.opds binD fnPost getRes IRes.get oneRes D.out outL D.clos closL D.norow norowL D.lv lvL D.scal scalL D.cells D.cell D.cell' St.lk obPut obDel List.lookup cut pickD splice fillParts fillRows elem_cons newsOf D.pl D.forget forgetL Ob.forget forgetO eqCells sg leD leDL leOb apartK St.le D.keys keysL D.rows rowsL obKeys addKeys reach pos D.ren renL Ob.ren inM outM inObs outObs goneK apartN okNames_eq okNms obNms namesOK_nil namesOK_cons freeOK_nil freeOK_cons D.frz frzL Ob.frz frzO St.frz forgetLs dropObs putObs hcall freeOf keeps baseN shD isShift shMax k_bad VCopsG frz_nil actx actc cnum vwCut St.frzT St.opnT St.clsT D.opn opnL Ob.opn opnO
set_option maxRecDepth 100000 in
set_option maxHeartbeats 8000000 in
theorem v_decide (h1 : T.sp n_part_site_answer = some sp_answer) (h2 : T.sp n_store_Writes = some sp_Writes) (h3 : T.sp n_store_End = some sp_End) : Verified T ir_part_site_decide sp_decide := by
  refine Verified.mkx rfl ?_
  rintro ds ob ⟨S, P, me, a, y, m, ns, rfl, rfl, fa, hn⟩ R hR
  rw [decide_F] at hR
  have x1 : sp_answer.hx = none := rfl
  have x2 : sp_Writes.hx = none := rfl
  have x3 : sp_End.hx = none := rfl
  have f1 := answer_F S P 0 me (stoC a) y m 8
  have p1 := answer_pre S P 0 me (stoC a) y m 8
  have f2 := writes_F a (m.site, m.n)
  have p2 := writes_pre fa (m.site, m.n)
  have f3 := end_F a (m.site, m.n) m.yes
  have p3 := end_pre fa (m.site, m.n) m.yes
  rw [decA] at hR
  generalize (endS a (m.site, m.n) m.yes).1 = u at f3 hR
  generalize (endS a (m.site, m.n) m.yes).2 = ue at f3
  generalize (writesS a (m.site, m.n)).1 = w at f2 hR
  generalize (writesS a (m.site, m.n)).2 = we at f2
  have hset := notesTo_set m ns
  have hsame := notesTo_same m ns
  have hget := notesTo_get m ns
  have hlenN := length_notesTo m ns
  have hany := anyTo_succ m ns
  have hanyE : anyTo m ns ns.length = ns.any (dmg m) := by rw [anyTo, List.take_length]
  have hallE := notesTo_all m ns
  rw [← hanyE, ← hallE] at hR
  have hz := notesTo_zero m ns
  have hz2 : anyTo m ns 0 = false := by simp [anyTo]
  clear hanyE hallE
  obtain ⟨m1, m2, m3, m4, m5, m6, m7, m8, m9, m10, m11, m12⟩ := m
  obtain ⟨a1, a2, a3, a4⟩ := a
  obtain ⟨u1, u2, u3, u4⟩ := u
  simp only [stoC, txC, siteC, msgC, ansM, ansD, ansC, recC, List.map_cons, List.map_nil] at f1 p1 f2 p2 f3 p3 hR ⊢
  simp (implicitDefEqProofs := false) (maxSteps := 10000000) [ir_part_site_decide, h1, h2, h3, x1, x2, x3, f1, p1, f2, p2, f3, p3]
  refine k_loop (ι := {j : Nat // j ≤ ns.length}) (fun x => ⟨mkTm 97 0 [(2, .row 1000000000), (4, .own 4 0), (6, .own 6 0), (7, .int .i64 w), (11, .own 11 0), (12, .bool (anyTo ⟨m1, m2, m3, m4, m5, m6, m7, m8, m9, m10, m11, m12⟩ ns x.1)), (55, .row 1000000000), (56, .int .i64 ns.length), (57, .int .i64 x.1)], [(4, .box [.int .i64 m1, .int .i64 m2, .int .i64 m3, .int .i64 m4, .int .i64 m5, .int .i64 m6, .int .i64 m7, .int .i64 m8, .int .i64 m9, .int .i64 m10, .bool m11, .int .i64 m12]), (6, .box [.nl 3, .nl 6, .nl 3, .nl 2, .nl 12, .nl 8, .nl 4]), (11, .box [.fz 3 (u1.map itC), .fz 6 (u2.map lkC), .fz 3 (u3.map dbC), .fz 2 (u4.map txC), .row 53, .nl 8, .nl 4]), (53, .row 12 [[.int .i64 8, .int .i64 me, .int .i64 m2, .int .i64 m4, .int .i64 m5, .int .i64 0, .int .i64 0, .int .i64 0, .int .i64 0, .int .i64 0, .bool false, .int .i64 0]]), (1000000000, .row 4 ((notesTo ⟨m1, m2, m3, m4, m5, m6, m7, m8, m9, m10, m11, m12⟩ ns x.1).map ntC))]⟩)
    (fun x => ns.length - x.1) [] ⟨0, by omega⟩ (by simp (implicitDefEqProofs := false) (maxSteps := 10000000) [hz, hz2]) ?_
  rintro ⟨j, hj⟩ Q hQ
  by_cases hjl : j < ns.length
  · have hjl' : (j : Int) < ns.length := by omega
    have hjA : j < (notesTo ⟨m1, m2, m3, m4, m5, m6, m7, m8, m9, m10, m11, m12⟩ ns j).length := by rw [hlenN]; exact hjl
    have hel := elem_map ntC (notesTo ⟨m1, m2, m3, m4, m5, m6, m7, m8, m9, m10, m11, m12⟩ ns j) j hjA
    rw [hget j hjl] at hel
    have hs1 := hset j hjl
    have hs2 := hsame j hjl
    have ha := hany j hjl
    have hlA := hlenN j
    clear hset hsame hget hlenN hany hR
    have hgo : ∀ (N : List Nt) (B : Bool), N = notesTo ⟨m1, m2, m3, m4, m5, m6, m7, m8, m9, m10, m11, m12⟩ ns (j + 1) → B = anyTo ⟨m1, m2, m3, m4, m5, m6, m7, m8, m9, m10, m11, m12⟩ ns (j + 1) → ∀ s', (∃ σ, St.le σ s' ⟨mkTm 97 0 [(2, .row 1000000000), (4, .own 4 0), (6, .own 6 0), (7, .int .i64 w), (11, .own 11 0), (12, .bool B), (55, .row 1000000000), (56, .int .i64 ns.length), (57, .int .i64 (j + 1 : Nat))], [(4, .box [.int .i64 m1, .int .i64 m2, .int .i64 m3, .int .i64 m4, .int .i64 m5, .int .i64 m6, .int .i64 m7, .int .i64 m8, .int .i64 m9, .int .i64 m10, .bool m11, .int .i64 m12]), (6, .box [.nl 3, .nl 6, .nl 3, .nl 2, .nl 12, .nl 8, .nl 4]), (11, .box [.fz 3 (u1.map itC), .fz 6 (u2.map lkC), .fz 3 (u3.map dbC), .fz 2 (u4.map txC), .row 53, .nl 8, .nl 4]), (53, .row 12 [[.int .i64 8, .int .i64 me, .int .i64 m2, .int .i64 m4, .int .i64 m5, .int .i64 0, .int .i64 0, .int .i64 0, .int .i64 0, .int .i64 0, .bool false, .int .i64 0]]), (1000000000, .row 4 (N.map ntC))]⟩) → Q s' := by
      rintro N B rfl rfl s' ⟨σ, hs'⟩
      exact hQ s' σ ⟨j + 1, by omega⟩ hs' (by simp only; omega)
    clear hQ
    simp only
    generalize notesTo ⟨m1, m2, m3, m4, m5, m6, m7, m8, m9, m10, m11, m12⟩ ns (j + 1) = N2 at hs1 hs2 hgo
    generalize notesTo ⟨m1, m2, m3, m4, m5, m6, m7, m8, m9, m10, m11, m12⟩ ns j = N1 at hjA hel hs1 hs2 hlA ⊢
    generalize anyTo ⟨m1, m2, m3, m4, m5, m6, m7, m8, m9, m10, m11, m12⟩ ns (j + 1) = B2 at ha hgo
    generalize anyTo ⟨m1, m2, m3, m4, m5, m6, m7, m8, m9, m10, m11, m12⟩ ns j = B1 at ha ⊢
    generalize ns[j] = x at hel hs1 hs2 ha
    obtain ⟨y1, y2, y3, y4⟩ := x
    simp only [ntC] at hel
    have hes : ∀ X, elem ((N1.map ntC).set j X) j = X := fun X => by simp [elem, List.getD, hlA, hjl]
    by_cases e1 : y1 = m4 ∧ y2 = m5
    · obtain ⟨rfl, rfl⟩ := e1
      by_cases e2 : y3 = m11
      · have hd : dmg ⟨m1, m2, m3, y1, y2, m6, m7, m8, m9, m10, m11, m12⟩ ⟨y1, y2, y3, y4⟩ = false := by simp [dmg, e2]
        have hN := hs2 (by rw [noteD, hd]; rfl)
        rw [hd, Bool.or_false] at ha
        have hg := hgo N1 B1 hN.symm ha.symm
        clear hgo hs1 hs2 ha hN hd
        subst e2
        simp (implicitDefEqProofs := false) (maxSteps := 10000000) [ir_part_site_decide_b0, hjl', hjl, hlA, hel]
        exact ⟨by simp only [inR]; omega, hg _ ⟨[], by simp (implicitDefEqProofs := false) (maxSteps := 10000000)⟩⟩
      · cases y4
        · have hd : dmg ⟨m1, m2, m3, y1, y2, m6, m7, m8, m9, m10, m11, m12⟩ ⟨y1, y2, y3, false⟩ = true := by simp [dmg, e2]
          have hN : (N1.set j ⟨y1, y2, y3, true⟩) = N2 := by rw [← hs1, noteD, if_pos hd]
          rw [hd, Bool.or_true] at ha
          have hg := hgo (N1.set j ⟨y1, y2, y3, true⟩) true hN ha.symm
          rw [List.map_set] at hg
          simp only [ntC] at hg
          clear hgo hs1 hs2 ha hN hd
          have e3 : ¬ m11 = y3 := fun h => e2 h.symm
          simp (implicitDefEqProofs := false) (maxSteps := 10000000) [ir_part_site_decide_b0, hjl', hjl, hlA, hel, e2, e3, hes]
          exact ⟨by simp only [inR]; omega, hg _ ⟨[], by simp (implicitDefEqProofs := false) (maxSteps := 10000000)⟩⟩
        · have hd : dmg ⟨m1, m2, m3, y1, y2, m6, m7, m8, m9, m10, m11, m12⟩ ⟨y1, y2, y3, true⟩ = false := by simp [dmg]
          have hN := hs2 (by rw [noteD, hd]; rfl)
          rw [hd, Bool.or_false] at ha
          have hg := hgo N1 B1 hN.symm ha.symm
          clear hgo hs1 hs2 ha hN hd
          have e3 : ¬ m11 = y3 := fun h => e2 h.symm
          simp (implicitDefEqProofs := false) (maxSteps := 10000000) [ir_part_site_decide_b0, hjl', hjl, hlA, hel, e2, e3]
          exact ⟨by simp only [inR]; omega, hg _ ⟨[], by simp (implicitDefEqProofs := false) (maxSteps := 10000000)⟩⟩
    · have hd : dmg ⟨m1, m2, m3, m4, m5, m6, m7, m8, m9, m10, m11, m12⟩ ⟨y1, y2, y3, y4⟩ = false := by
        simp only [dmg]
        rw [decide_eq_false e1]
        rfl
      have hN := hs2 (by rw [noteD, hd]; rfl)
      rw [hd, Bool.or_false] at ha
      have hg := hgo N1 B1 hN.symm ha.symm
      clear hgo hs1 hs2 ha hN hd
      simp (implicitDefEqProofs := false) (maxSteps := 10000000) [ir_part_site_decide_b0, hjl', hjl, hlA, hel, e1]
      exact ⟨by simp only [inR]; omega, hg _ ⟨[], by simp (implicitDefEqProofs := false) (maxSteps := 10000000)⟩⟩
  · have hjn : j = ns.length := by omega
    subst hjn
    clear hQ hset hsame hget hany hz hz2
    have hlA := hlenN ns.length
    simp only
    generalize notesTo ⟨m1, m2, m3, m4, m5, m6, m7, m8, m9, m10, m11, m12⟩ ns ns.length = N at hR hlA ⊢
    generalize anyTo ⟨m1, m2, m3, m4, m5, m6, m7, m8, m9, m10, m11, m12⟩ ns ns.length = B at hR ⊢
    by_cases hw : 0 < w
    · rw [if_pos (.inl hw)] at hR
      simp (implicitDefEqProofs := false) (maxSteps := 10000000) [ir_part_site_decide_b0, ir_part_site_decide_r1, hlA, hw]
      exact hR _ [] (by simp (implicitDefEqProofs := false) (maxSteps := 10000000))
    · cases B
      · rw [if_neg (by rintro (h | h); exact hw h; cases h)] at hR
        simp (implicitDefEqProofs := false) (maxSteps := 10000000) [ir_part_site_decide_b0, ir_part_site_decide_r1, hlA, hw]
        exact hR _ [] (by simp (implicitDefEqProofs := false) (maxSteps := 10000000))
      · rw [if_pos (.inr rfl)] at hR
        simp (implicitDefEqProofs := false) (maxSteps := 10000000) [ir_part_site_decide_b0, ir_part_site_decide_r1, hlA, hw]
        exact hR _ [] (by simp (implicitDefEqProofs := false) (maxSteps := 10000000))
end
end Go.Proofs.YtilahimnineigaaDoor
