/-
  Stores: Age computes what the plain function beside it says. Conditions: those of its specification's 'pre', and that the functions that are called are what theirs say.
-/
import Derived.Test.YtjilpdgpdpibkaaSt6
set_option linter.unusedVariables false
set_option linter.unusedSimpArgs false
namespace Go.Proofs.Ytjilpdgpdpibkaa
open Go Go.Vcg

def bump (p : Int) (d : Db) : Db := if p ≤ d.age + 1 then ⟨d.site, d.n, 0⟩ else ⟨d.site, d.n, d.age + 1⟩
def toldL (p : Int) (l : List Db) : List Tx := (l.filter fun d => decide (p ≤ d.age + 1)).map fun d => (d.site, d.n)
noncomputable def ageS (s : Sto) (p : Int) : (Sto × List Tx) × Int :=
  if okS s = false then ((s0, []), 9) else if ¬ (1 ≤ p ∧ p ≤ 1048576) then ((s0, []), 2) else (({ s with doubts := s.doubts.map (bump p) }, toldL p s.doubts), 0)
noncomputable def sp_Age : Sp := { pre := fun ds => ∃ (s : Sto) (p : Int), ds = [stoD s, .int .i64 p] ∧ fewS' s, F := fun | [s, .int _ p] => .tup [stoD (ageS (stoOf s) p).1.1, .fz 2 ((ageS (stoOf s) p).1.2.map txC), .int .i64 (ageS (stoOf s) p).2] | _ => .any }
def agedTo (p : Int) (l : List Db) (j : Nat) : List Db := (l.take j).map (bump p) ++ l.drop j
theorem length_agedTo (p : Int) (l : List Db) (j : Nat) : (agedTo p l j).length = l.length := by simp [agedTo]; omega
theorem agedTo_zero (p : Int) (l : List Db) : agedTo p l 0 = l := by simp [agedTo]
theorem agedTo_all (p : Int) (l : List Db) : agedTo p l l.length = l.map (bump p) := by simp [agedTo]
theorem agedTo_get (p : Int) (l : List Db) (j : Nat) (h : j < l.length) : (agedTo p l j)[j]'(by rw [length_agedTo]; exact h) = l[j] := by
  have h3 : ((l.take j).map (bump p)).length = j := by simp; omega
  simp only [agedTo]
  rw [List.getElem_append_right (by omega)]
  simp only [h3, Nat.sub_self, List.getElem_drop, Nat.add_zero]
theorem agedTo_set (p : Int) (l : List Db) (j : Nat) (h : j < l.length) : (agedTo p l j).set j (bump p l[j]) = agedTo p l (j + 1) := by
  have h1 : l.drop j = l[j] :: l.drop (j + 1) := List.drop_eq_getElem_cons h
  have h2 : l.take (j + 1) = l.take j ++ [l[j]] := (List.take_append_getElem h).symm
  have h3 : ((l.take j).map (bump p)).length = j := by simp; omega
  rw [agedTo, agedTo, h2, List.map_append, List.append_assoc, List.set_append_right _ _ (by omega), h3, Nat.sub_self, h1]
  rfl
def toldTo (p : Int) (l : List Db) (j : Nat) : List Tx := toldL p (l.take j)
theorem toldTo_succ (p : Int) (l : List Db) (j : Nat) (h : j < l.length) : toldTo p l (j + 1) = if p ≤ l[j].age + 1 then toldTo p l j ++ [(l[j].site, l[j].n)] else toldTo p l j := by
  have h2 : l.take (j + 1) = l.take j ++ [l[j]] := (List.take_append_getElem h).symm
  unfold toldTo
  rw [h2, toldL, toldL, List.filter_append, List.map_append]
  by_cases hc : p ≤ l[j].age + 1
  · rw [if_pos hc]; simp [hc]
  · rw [if_neg hc]; simp [hc]
theorem length_toldTo (p : Int) (l : List Db) (j : Nat) : (toldTo p l j).length ≤ l.length := by
  have h1 := List.length_filter_le (fun d : Db => decide (p ≤ d.age + 1)) (l.take j)
  simp only [toldTo, toldL, List.length_map]
  simp at h1 ⊢
  omega

section
variable {T : Tb}
attribute [local simp] k_seq k_block k_skip k_reg k_alt k_cond k_exit k_ret kf_nil kf_seq_n kf_seq_e kf_seq_r kf_blk_n kf_blk_e kf_blk_r kf_lp_n kf_lp_e kf_lp_r kf_cut_n kf_cut_e kf_cut_r mkTm VCops VCalt istep act gd applyE wrapD Opd.ev get_mk set_mk set_mk0 tget16 tset16 tget_0 tset_0 tget_1 tset_1 tget_2 tset_2 tget_3 tset_3 tget_4 tset_4 tget_5 tset_5 tget_6 tset_6 tget_7 tset_7 tget_8 tset_8 tget_9 tset_9 tget_10 tset_10 tget_11 tset_11 tget_12 tset_12 tget_13 tset_13 tget_14 tset_14 tget_15 tset_15 D.un D.gu gus IOp.opds binD fnPost getRes IRes.get oneRes D.out outL D.clos closL D.norow norowL D.lv lvL D.scal scalL D.cells D.cell D.cell' St.lk obPut obDel List.lookup cut pickD splice fillParts fillRows elem_cons newsOf D.pl D.forget forgetL Ob.forget forgetO eqCells sg leD leDL leOb apartK St.le D.keys keysL D.rows rowsL obKeys addKeys reach pos D.ren renL Ob.ren inM outM inObs outObs goneK apartN okNames_eq okNms obNms namesOK_nil namesOK_cons freeOK_nil freeOK_cons D.frz frzL Ob.frz frzO St.frz forgetLs dropObs putObs hcall freeOf keeps baseN shD isShift shMax k_bad VCopsG frz_nil actx actc cnum vwCut St.frzT St.opnT St.clsT D.opn opnL Ob.opn opnO
set_option maxRecDepth 100000 in
set_option maxHeartbeats 8000000 in
theorem v_Age (h1 : T.sp n_store_Check = some sp_SCheck) (h2 : T.sp n_store_own = some sp_own) : Verified T ir_store_Age sp_Age := by
  refine Verified.mk ?_
  rintro ds ⟨s, p, rfl, hf'⟩
  have hf := fewS'_fewS hf'
  simp only [sp_Age, stoOf_stoD]
  have x1 : sp_SCheck.hx = none := rfl
  have x2 : sp_own.hx = some hs_own := rfl
  have f1 := chk_F s
  have p1 := chk_pre hf
  have p2 := own_pre hf
  cases hok : okS s
  · have hr : ageS s p = ((s0, []), 9) := by rw [ageS, if_pos hok]
    rw [hr]
    rw [hok] at f1
    simp only [Bool.false_eq_true, if_false] at f1
    clear hr hok
    obtain ⟨a, b, c, d⟩ := s
    simp only [stoC] at f1 p1
    simp (implicitDefEqProofs := false) (maxSteps := 10000000) [ir_store_Age, stoD, stoC, s0, h1, x1, f1, p1]
  · rw [hok] at f1
    simp only [if_true] at f1
    by_cases hp : 1 ≤ p ∧ p ≤ 1048576
    · have hr : ageS s p = (({ s with doubts := s.doubts.map (bump p) }, toldL p s.doubts), 0) := by
        rw [ageS, if_neg (by simp [hok]), if_neg (by simpa using hp)]
      rw [hr]
      have hage : ∀ j (h : j < s.doubts.length), 0 ≤ s.doubts[j].age ∧ s.doubts[j].age ≤ 1048576 := fun j h => by
        have := ((okS_parts hok).2.1.1 j h).1
        simp only [okDb, Bool.and_eq_true, decide_eq_true_eq, List.getD, List.getElem?_eq_getElem h, Option.getD_some] at this
        omega
      clear hr hok
      obtain ⟨a, b, l, d⟩ := s
      simp only [stoC] at f1 p1 p2 hage ⊢
      have v1 : ¬ p < 1 := by omega
      have v2 : ¬ 1048576 < p := by omega
      have hl : l.length ≤ 10000 := hf'.2.2.1
      simp (implicitDefEqProofs := false) (maxSteps := 10000000) [ir_store_Age, stoD, stoC, h1, h2, x1, x2, f1, p1, p2, own_F, v1, v2]
      refine k_loop (ι := {j : Nat // j ≤ l.length}) (fun x => ⟨mkTm 63 0 [(1, .int .i64 p), (4, .own 4 0), (8, .own 8 0), (9, .row 204), (29, .int .i64 l.length), (30, .int .i64 x.1)], [(4, .box [.nl 3, .nl 6, .nl 3, .nl 2]), (8, .box [.row 200, .row 201, .row 202, .row 203]), (200, .row 3 (a.map itC)), (201, .row 6 (b.map lkC)), (202, .row 3 ((agedTo p l x.1).map dbC)), (203, .row 2 (d.map txC)), (204, .row 2 ((toldTo p l x.1).map txC))]⟩)
        (fun x => l.length - x.1) [(200, some 270000), (201, some 270001), (202, some 270002), (203, some 270003), (204, none)] ⟨0, by omega⟩ (by simp (implicitDefEqProofs := false) (maxSteps := 10000000) [agedTo_zero, toldTo, toldL]) ?_
      rintro ⟨j, hj⟩ P hQ
      by_cases hjl : j < l.length
      · have hjl' : (j : Int) < l.length := by omega
        have hjA : j < (agedTo p l j).length := by rw [length_agedTo]; exact hjl
        have hel := elem_map dbC (agedTo p l j) j hjA
        rw [agedTo_get p l j hjl] at hel
        have hset := agedTo_set p l j hjl
        have htold := toldTo_succ p l j hjl
        have hlen := length_toldTo p l j
        have hlA := length_agedTo p l j
        obtain ⟨g1, g2⟩ := hage j hjl
        have hsetC : (agedTo p l (j + 1)).map dbC = ((agedTo p l j).map dbC).set j (dbC (bump p l[j])) := by rw [← hset, List.map_set]
        generalize l[j] = x at hel hset htold g1 g2 hsetC
        have hes : ∀ x, elem (((agedTo p l j).map dbC).set j x) j = x := fun x => by simp [elem, List.getD, hlA, hjl]
        obtain ⟨u1, u2, u3⟩ := x
        simp only [dbC, bump] at hel htold g1 g2 hsetC
        by_cases hc : p ≤ u3 + 1
        · rw [if_pos hc] at htold hsetC
          simp (implicitDefEqProofs := false) (maxSteps := 10000000) [ir_store_Age_b0, hjl', hjl, hlA, hel, hes, hc]
          exact ⟨by simp only [inR]; omega, ⟨by omega, by omega⟩, by simp only [inR]; omega, hQ _ [(204, some 56)] ⟨j + 1, by omega⟩ (by simp (implicitDefEqProofs := false) (maxSteps := 10000000) [hsetC, htold, txC]) (by simp only; omega)⟩
        · rw [if_neg hc] at htold hsetC
          simp (implicitDefEqProofs := false) (maxSteps := 10000000) [ir_store_Age_b0, hjl', hjl, hlA, hel, hes, hc]
          exact ⟨by simp only [inR]; omega, by simp only [inR]; omega, hQ _ [] ⟨j + 1, by omega⟩ (by simp (implicitDefEqProofs := false) (maxSteps := 10000000) [hsetC, htold, txC]) (by simp only; omega)⟩
      · have hjl2 : j = l.length := by omega
        subst hjl2
        simp (implicitDefEqProofs := false) (maxSteps := 10000000) [ir_store_Age_b0, ir_store_Age_r1, agedTo_all, toldTo, stoD, stoC]
    · have hr : ageS s p = ((s0, []), 2) := by rw [ageS, if_neg (by simp [hok]), if_pos hp]
      rw [hr]
      clear hr hok
      obtain ⟨a, b, c, d⟩ := s
      simp only [stoC] at f1 p1
      by_cases v1 : p < 1
      · simp (implicitDefEqProofs := false) (maxSteps := 10000000) [ir_store_Age, stoD, stoC, s0, h1, x1, f1, p1, v1]
      · have v2 : 1048576 < p := by omega
        simp (implicitDefEqProofs := false) (maxSteps := 10000000) [ir_store_Age, stoD, stoC, s0, h1, x1, f1, p1, v1, v2]
end
end Go.Proofs.Ytjilpdgpdpibkaa
