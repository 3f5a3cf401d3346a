/-
  slices.Sort of a few ints. Conditions: those of each specification's 'pre', and that the functions that are called are what theirs say.
-/
import Derived.Test.YtchbnpjegacobaaDoorCoE
set_option linter.unusedVariables false
set_option linter.unusedSimpArgs false
namespace Go.Proofs.YtchbnpjegacobaaDoor
open Go Go.Vcg

/-! ### Where one goes among those ahead of it -/
def placed (x : Int) (A : List Int) (j : Nat) : Prop := j ≤ A.length ∧ (∀ k (hk : k < A.length), j ≤ k → x < A[k]) ∧ ∀ h : j - 1 < A.length, 0 < j → A[j - 1] ≤ x
theorem placed_from (x : Int) (A : List Int) : ∀ j, j ≤ A.length → (∀ k (hk : k < A.length), j ≤ k → x < A[k]) → ∃ j, placed x A j
  | 0, h, h1 => ⟨0, h, h1, fun _ h => absurd h (by omega)⟩
  | j + 1, h, h1 => by
    by_cases hx : x < A[j]
    · exact placed_from x A j (by omega) fun k hk hj => by
        by_cases e : k = j
        · subst e; exact hx
        · exact h1 k hk (by omega)
    · exact ⟨j + 1, h, h1, fun _ _ => by simp only [Nat.add_sub_cancel]; omega⟩
theorem placed_ex (x : Int) (A : List Int) : ∃ j, placed x A j := placed_from x A A.length (Nat.le_refl _) fun k hk h => absurd hk (by omega)
theorem placed_uniq {x : Int} {A : List Int} {i j : Nat} (hi : placed x A i) (hj : placed x A j) : i = j := by
  rcases Nat.lt_trichotomy i j with h | h | h
  · have h1 := hi.2.1 (j - 1) (by have := hj.1; omega) (by omega)
    have h2 := hj.2.2 (by have := hj.1; omega) (by omega)
    omega
  · exact h
  · have h1 := hj.2.1 (i - 1) (by have := hi.1; omega) (by omega)
    have h2 := hi.2.2 (by have := hi.1; omega) (by omega)
    omega
noncomputable def posI (x : Int) (A : List Int) : Nat := (placed_ex x A).choose
theorem posI_spec (x : Int) (A : List Int) : placed x A (posI x A) := (placed_ex x A).choose_spec
noncomputable def insI (x : Int) (A : List Int) : List Int := A.take (posI x A) ++ x :: A.drop (posI x A)
noncomputable def isort (l : List Int) : List Int := l.foldl (fun A x => insI x A) []
theorem insI_length (x : Int) (A : List Int) : (insI x A).length = A.length + 1 := by
  have := (posI_spec x A).1
  simp [insI]; omega
theorem isort_length (l : List Int) : (isort l).length = l.length := by
  have : ∀ (l A : List Int), (l.foldl (fun A x => insI x A) A).length = A.length + l.length := by
    intro l
    induction l with
    | nil => intro A; rfl
    | cons x l ih => intro A; rw [List.foldl_cons, ih, insI_length, List.length_cons]; omega
  rw [isort, this]; simp
theorem isort_take {l : List Int} {i : Nat} (h : i < l.length) : isort (l.take (i + 1)) = insI l[i] (isort (l.take i)) := by
  rw [← List.take_append_getElem h, isort, List.foldl_append]
  rfl
/-- On the way of x through A. -/
def wayA (A : List Int) (x : Int) (j : Nat) (R : List Int) : List Int := A.take j ++ x :: (A.drop j ++ R)
theorem wayA_length {A R : List Int} {x : Int} {j : Nat} (h : j ≤ A.length) : (wayA A x j R).length = A.length + 1 + R.length := by
  simp [wayA]; omega
theorem wayA_elem {A R : List Int} {x : Int} {j : Nat} (h : j ≤ A.length) : elem ((wayA A x j R).map ic) j = ic x := by
  have hl : ((A.take j).map ic).length = j := by simp; omega
  rw [wayA, List.map_append, List.map_cons, elem, List.getD, List.getElem?_append_right (by omega), hl, Nat.sub_self]
  rfl
theorem wayA_elem1 {A R : List Int} {x : Int} {j : Nat} (h : j ≤ A.length) (h0 : 0 < j) : elem ((wayA A x j R).map ic) (j - 1) = ic (A[j - 1]'(by omega)) := by
  have hl : j - 1 < ((A.take j).map ic).length := by simp; omega
  rw [wayA, List.map_append, List.map_cons, elem, List.getD, List.getElem?_append_left hl]
  simp [List.getElem?_take, show j - 1 < j by omega, show j - 1 < A.length by omega]
theorem wayA_swap {A R : List Int} {x : Int} {j : Nat} (h : j ≤ A.length) (h0 : 0 < j) : (((wayA A x j R).map ic).set j (ic (A[j - 1]'(by omega)))).set (j - 1) (ic x) = (wayA A x (j - 1) R).map ic := by
  rw [← List.map_set, ← List.map_set]
  congr 1
  have hl : (A.take j).length = j := by simp; omega
  have e1 : A.take j = A.take (j - 1) ++ [A[j - 1]'(by omega)] := by
    have := List.take_append_getElem (l := A) (i := j - 1) (by omega)
    rw [show j - 1 + 1 = j by omega] at this
    exact this.symm
  have hl1 : (A.take (j - 1)).length = j - 1 := by simp; omega
  have e2 : A.drop (j - 1) = A[j - 1]'(by omega) :: A.drop j := by
    have := List.drop_eq_getElem_cons (l := A) (i := j - 1) (by omega)
    rw [show j - 1 + 1 = j by omega] at this
    exact this
  rw [wayA, wayA, List.set_append_right _ _ (by omega), hl, Nat.sub_self, List.set_cons_zero, e1, List.append_assoc, List.set_append_right _ _ (by omega), hl1, Nat.sub_self, List.singleton_append, List.set_cons_zero, e2]
  simp
theorem wayA_ic (A R : List Int) (x : Int) (j : Nat) (k : Nat) : ((wayA A x j R).map ic).set k (ic x) = ((wayA A x j R).set k x).map ic := by rw [List.map_set]
theorem elem_set_ne {es : List (List D)} {i j : Nat} {x : List D} (h : i ≠ j) : elem (es.set i x) j = elem es j := by
  simp [elem, List.getD, List.getElem?_set_ne h]
theorem insI_way {A : List Int} {x : Int} {j : Nat} (R : List Int) (h : placed x A j) : insI x A ++ R = wayA A x j R := by
  rw [insI, placed_uniq (posI_spec x A) h, wayA]
  simp

def sp_NaN : Sp := { pre := fun ds => ∃ a : Int, ds = [.int .i64 a], F := fun _ => .bool false }
def sp_Less : Sp := { pre := fun ds => ∃ a b : Int, ds = [.int .i64 a, .int .i64 b], F := fun | [.int _ a, .int _ b] => .bool (decide (a < b)) | _ => .any }
theorem less_F (a b : Int) : sp_Less.F [.int .i64 a, .int .i64 b] = .bool (decide (a < b)) := rfl
theorem less_pre (a b : Int) : sp_Less.pre [.int .i64 a, .int .i64 b] = True := by
  simp only [sp_Less, eq_iff_iff, iff_true]; exact ⟨a, b, rfl⟩
noncomputable def hs_Isort : HSp := {
  pre := fun ds ob => ∃ (l : List Int), ds = [.row 1000000000, .int .i64 0, .int .i64 l.length] ∧ ob = [(1000000000, .row 1 (l.map ic))] ∧ l.length ≤ 12
  F := fun _ ob => match ob with
    | [(_, .row _ es)] => (.tup [], [(1000000000, .row 1 ((isort (es.map intOf)).map ic))])
    | _ => (.any, []) }
noncomputable def sp_Isort : Sp := { pre := fun _ => True, F := fun _ => .any, hx := some hs_Isort }
theorem isort_F (l : List Int) : hs_Isort.F [.row 1000000000, .int .i64 0, .int .i64 l.length] [(1000000000, .row 1 (l.map ic))] = (.tup [], [(1000000000, .row 1 ((isort l).map ic))]) := by
  simp only [hs_Isort, icL_map]
theorem isort_pre {l : List Int} (h : l.length ≤ 12) : hs_Isort.pre [.row 1000000000, .int .i64 0, .int .i64 l.length] [(1000000000, .row 1 (l.map ic))] = True := by
  simp only [hs_Isort, eq_iff_iff, iff_true]; exact ⟨l, rfl, rfl, h⟩
noncomputable def hs_Pdq : HSp := {
  pre := fun ds ob => ∃ (l : List Int) (k : Int), ds = [.row 1000000000, .int .i64 0, .int .i64 l.length, .int .i64 k] ∧ ob = [(1000000000, .row 1 (l.map ic))] ∧ l.length ≤ 12
  F := fun _ ob => match ob with
    | [(_, .row _ es)] => (.tup [], [(1000000000, .row 1 ((isort (es.map intOf)).map ic))])
    | _ => (.any, []) }
noncomputable def sp_Pdq : Sp := { pre := fun _ => True, F := fun _ => .any, hx := some hs_Pdq }
theorem pdq_F (l : List Int) (k : Int) : hs_Pdq.F [.row 1000000000, .int .i64 0, .int .i64 l.length, .int .i64 k] [(1000000000, .row 1 (l.map ic))] = (.tup [], [(1000000000, .row 1 ((isort l).map ic))]) := by
  simp only [hs_Pdq, icL_map]
theorem pdq_pre {l : List Int} (k : Int) (h : l.length ≤ 12) : hs_Pdq.pre [.row 1000000000, .int .i64 0, .int .i64 l.length, .int .i64 k] [(1000000000, .row 1 (l.map ic))] = True := by
  simp only [hs_Pdq, eq_iff_iff, iff_true]; exact ⟨l, k, rfl, rfl, h⟩
noncomputable def hs_Sort : HSp := {
  pre := fun ds ob => ∃ (l : List Int), ds = [.row 1000000000] ∧ ob = [(1000000000, .row 1 (l.map ic))] ∧ l.length ≤ 12
  F := fun _ ob => match ob with
    | [(_, .row _ es)] => (.tup [], [(1000000000, .row 1 ((isort (es.map intOf)).map ic))])
    | _ => (.any, []) }
noncomputable def sp_Sort : Sp := { pre := fun _ => True, F := fun _ => .any, hx := some hs_Sort }
theorem sort_F (l : List Int) : hs_Sort.F [.row 1000000000] [(1000000000, .row 1 (l.map ic))] = (.tup [], [(1000000000, .row 1 ((isort l).map ic))]) := by
  simp only [hs_Sort, icL_map]
theorem sort_pre {l : List Int} (h : l.length ≤ 12) : hs_Sort.pre [.row 1000000000] [(1000000000, .row 1 (l.map ic))] = True := by
  simp only [hs_Sort, eq_iff_iff, iff_true]; exact ⟨l, trivial, rfl, h⟩
/-- How many bits a small number has. -/
def bitsOf (n : Int) : Int := if n = 0 then 0 else if n < 2 then 1 else if n < 4 then 2 else if n < 8 then 3 else 4
def sp_Len : Sp := { pre := fun ds => ∃ n : Int, ds = [.int .u64 n] ∧ 0 ≤ n ∧ n ≤ 12, F := fun | [.int _ n] => .int .i64 (bitsOf n) | _ => .any }
theorem len_F (n : Int) : sp_Len.F [.int .u64 n] = .int .i64 (bitsOf n) := rfl
theorem len_pre {n : Int} (h0 : 0 ≤ n) (h : n ≤ 12) : sp_Len.pre [.int .u64 n] = True := by
  simp only [sp_Len, eq_iff_iff, iff_true]; exact ⟨n, rfl, h0, h⟩

section
variable {T : Tb}
attribute [local simp] k_seq k_block k_skip k_reg k_alt k_cond k_exit k_ret kf_nil kf_seq_n kf_seq_e kf_seq_r kf_blk_n kf_blk_e kf_blk_r kf_lp_n kf_lp_e kf_lp_r kf_cut_n kf_cut_e kf_cut_r mkTm VCops VCalt istep act gd applyE wrapD Opd.ev get_mk set_mk set_mk0 tget16 tset16 tget_0 tset_0 tget_1 tset_1 tget_2 tset_2 tget_3 tset_3 tget_4 tset_4 tget_5 tset_5 tget_6 tset_6 tget_7 tset_7 tget_8 tset_8 tget_9 tset_9 tget_10 tset_10 tget_11 tset_11 tget_12 tset_12 tget_13 tset_13 tget_14 tset_14 tget_15 tset_15 D.un D.gu gus IOp.opds binD fnPost getRes IRes.get oneRes D.out outL D.clos closL D.norow norowL D.lv lvL D.scal scalL D.cells D.cell D.cell' St.lk obPut obDel List.lookup cut pickD splice fillParts fillRows elem_cons newsOf D.pl D.forget forgetL Ob.forget forgetO eqCells sg leD leDL leOb apartK St.le D.keys keysL D.rows rowsL obKeys addKeys reach pos D.ren renL Ob.ren inM outM inObs outObs goneK apartN okNames_eq okNms obNms namesOK_nil namesOK_cons freeOK_nil freeOK_cons D.frz frzL Ob.frz frzO St.frz forgetLs dropObs putObs hcall freeOf keeps baseN shD isShift shMax k_bad VCopsG frz_nil actx actc cnum vwCut St.frzT St.opnT St.clsT D.opn opnL Ob.opn opnO VCou VCcx St.oneS D.objI D.objK scrL D.scr St.opnS St.clsS D.cellS D.fzs fzsL k_mrk k_mrq IOper.gh
theorem v_NaN : Verified T ir_cmp_isNaN_int sp_NaN := by
  refine Verified.mk ?_
  rintro ds ⟨a, rfl⟩
  simp (implicitDefEqProofs := false) [ir_cmp_isNaN_int, sp_NaN]
theorem v_Less (h1 : T.sp n_cmp_isNaN_int = some sp_NaN) : Verified T ir_cmp_Less_int sp_Less := by
  refine Verified.mk ?_
  rintro ds ⟨a, b, rfl⟩
  rw [less_F]
  have x1 : sp_NaN.hx = none := rfl
  have f1 : ∀ d, sp_NaN.F d = .bool false := fun _ => rfl
  have p1 : ∀ a : Int, sp_NaN.pre [.int .i64 a] = True := fun a => by simp only [sp_NaN, eq_iff_iff, iff_true]; exact ⟨a, rfl⟩
  simp (implicitDefEqProofs := false) [ir_cmp_Less_int, h1, x1, f1, p1]
set_option maxRecDepth 100000 in
set_option maxHeartbeats 8000000 in
theorem v_Isort (h1 : T.sp n_cmp_Less_int = some sp_Less) : Verified T ir_slices_insertionSortOrdered_int sp_Isort := by
  refine Verified.mkx rfl ?_
  rintro ds ob ⟨l, rfl, rfl, hl⟩ R hR
  rw [isort_F] at hR
  have x1 : sp_Less.hx = none := rfl
  simp (implicitDefEqProofs := false) [ir_slices_insertionSortOrdered_int]
  refine ⟨by simp only [inR]; omega, ?_⟩
  refine k_loop (ι := {i : Nat // 1 ≤ i ∧ i ≤ max 1 l.length}) (fun x => ⟨mkTm 49 0 [(0, .row 1000000000), (1, .int .i64 0), (2, .int .i64 l.length), (6, .int .i64 x.1)], [(1000000000, .row 1 ((isort (l.take x.1) ++ l.drop x.1).map ic))]⟩)
    (fun x => 20 - x.1) [] ⟨1, by omega, by omega⟩ ?_ ?_
  · have e : isort (l.take 1) ++ l.drop 1 = l := by
      cases l with
      | nil => rfl
      | cons a l =>
        have h := posI_spec a []
        have h0 : posI a [] = 0 := by have := h.1; simpa using this
        simp [isort, insI, h0]
    rw [e]
    simp (implicitDefEqProofs := false)
  rintro ⟨i, hi1, hi2⟩ P hP
  by_cases hil : i < l.length
  · have hil' : (i : Int) < l.length := by omega
    simp (implicitDefEqProofs := false) [ir_slices_insertionSortOrdered_int_b2, hil', -List.map_append, -List.map_drop]
    have hA : (isort (l.take i)).length = i := by rw [isort_length, List.length_take]; omega
    have hd : l.drop i = l[i] :: l.drop (i + 1) := List.drop_eq_getElem_cons hil
    have htk := isort_take hil
    generalize isort (l.take i) = A at hA htk
    generalize l[i] = x at hd htk
    have hR0 : (l.drop (i + 1)).length = l.length - (i + 1) := by simp
    generalize hRR : l.drop (i + 1) = RR at hd hR0
    have e0 : A ++ l.drop i = wayA A x i RR := by
      rw [hd, wayA, ← hA, List.take_length, List.drop_length]; simp
    rw [e0]
    refine k_loop (ι := {j : Nat // j ≤ i ∧ ∀ k (hk : k < A.length), j ≤ k → x < A[k]}) (fun y => ⟨mkTm 49 0 [(0, .row 1000000000), (1, .int .i64 0), (2, .int .i64 l.length), (6, .int .i64 i), (7, .int .i64 y.1)], [(1000000000, .row 1 ((wayA A x y.1 RR).map ic))]⟩)
      (fun y => y.1) [] ⟨i, Nat.le_refl _, fun k hk h => absurd hk (by omega)⟩ (by simp (implicitDefEqProofs := false)) ?_
    rintro ⟨j, hj, hjx⟩ P2 hP2
    have hjA : j ≤ A.length := by omega
    have hlen := wayA_length (R := RR) (x := x) hjA
    have hel := wayA_elem (R := RR) (x := x) hjA
    by_cases h0 : 0 < j
    · have h0' : 0 < (j : Int) := by omega
      have hj1 : (j : Int) - 1 = ((j - 1 : Nat) : Int) := by omega
      have hel1 := wayA_elem1 (R := RR) (x := x) hjA h0
      have hsw := wayA_swap (R := RR) (x := x) hjA h0
      have hex : j - 1 < A.length := by omega
      have hnx : x < A[j - 1] → ∀ k (hk : k < A.length), j - 1 ≤ k → x < A[k] := fun hq k hk hjk => by
        by_cases e : k = j - 1
        · subst e; exact hq
        · exact hjx k hk (by omega)
      have hpl : ¬ x < A[j - 1] → placed x A j := fun hq => ⟨hjA, hjx, fun _ _ => by omega⟩
      generalize A[j - 1] = a at hel1 hsw hnx hpl
      have f1 := less_F x a
      have p1 := less_pre x a
      have hse := elem_set_ne (es := (wayA A x j RR).map ic) (i := j) (j := j - 1) (x := ic a) (by omega)
      rw [hel1] at hse
      simp only [ic] at hel hel1 hsw hse
      by_cases hq : x < a
      · simp (implicitDefEqProofs := false) (maxSteps := 10000000) [ir_slices_insertionSortOrdered_int_b0, h0', h0, hel, hj1, hel1, h1, x1, f1, p1, hq, hlen, hse]
        and_intros
        all_goals first | omega | (simp only [inR]; omega) | exact hP2 _ [] ⟨j - 1, by omega, hnx hq⟩ (by simp (implicitDefEqProofs := false) [hsw]) (by simp only; omega)
      · have hw := insI_way RR (hpl hq)
        simp (implicitDefEqProofs := false) (maxSteps := 10000000) [ir_slices_insertionSortOrdered_int_b0, ir_slices_insertionSortOrdered_int_r1, h0', h0, hel, hj1, hel1, h1, x1, f1, p1, hq, hlen]
        and_intros
        all_goals first | omega | (simp only [inR]; omega) | exact hP _ [] ⟨i + 1, by omega, by omega⟩ (by simp (implicitDefEqProofs := false) [htk, hRR, hw, -List.map_append, -List.map_drop]) (by simp only; omega)
    · obtain rfl : j = 0 := by omega
      have hw := insI_way RR (⟨hjA, hjx, fun _ h => absurd h (by omega)⟩ : placed x A 0)
      simp only [ic] at hel
      have f0 := less_F x x
      have p0 := less_pre x x
      simp (implicitDefEqProofs := false) (maxSteps := 10000000) [ir_slices_insertionSortOrdered_int_b0, ir_slices_insertionSortOrdered_int_r1, h1, x1, hel, p0, f0]
      and_intros
      all_goals first | omega | (simp only [inR]; omega) | exact hP _ [] ⟨i + 1, by omega, by omega⟩ (by simp (implicitDefEqProofs := false) [htk, hRR, hw, -List.map_append, -List.map_drop]) (by simp only; omega)
  · have hil' : ¬ (i : Int) < l.length := by omega
    have e : isort (l.take i) ++ l.drop i = isort l := by
      rw [List.take_of_length_le (by omega), List.drop_eq_nil_of_le (by omega), List.append_nil]
    simp (implicitDefEqProofs := false) [ir_slices_insertionSortOrdered_int_b2, hil', -List.map_append, -List.map_drop]
    rw [e]
    exact hR _ [] (by simp (implicitDefEqProofs := false))
set_option maxRecDepth 100000 in
set_option maxHeartbeats 8000000 in
theorem v_Pdq (h1 : T.sp n_slices_insertionSortOrdered_int = some sp_Isort) : Verified T ir_slices_pdqsortOrdered_int sp_Pdq := by
  refine Verified.mkx rfl ?_
  rintro ds ob ⟨l, k, rfl, rfl, hl⟩ R hR
  rw [pdq_F] at hR
  have x1 : sp_Isort.hx = some hs_Isort := rfl
  have f1 := isort_F l
  have p1 := isort_pre hl
  have hl' : (l.length : Int) ≤ 12 := by omega
  simp (implicitDefEqProofs := false) [ir_slices_pdqsortOrdered_int]
  refine k_loop (ι := Unit) (fun _ => ⟨mkTm 134 0 [(0, .row 1000000000), (1, .int .i64 0), (2, .int .i64 l.length), (3, .int .i64 k), (8, .bool true), (9, .bool true)], [(1000000000, .row 1 (l.map ic))]⟩)
    (fun _ => 0) [] () (by simp (implicitDefEqProofs := false)) ?_
  rintro ⟨⟩ P hP
  simp (implicitDefEqProofs := false) (maxSteps := 10000000) [ir_slices_pdqsortOrdered_int_b0, h1, x1, f1, p1, hl']
  exact ⟨by simp only [inR]; omega, hR _ [] (by simp (implicitDefEqProofs := false))⟩
theorem v_Sort (h1 : T.sp n_slices_pdqsortOrdered_int = some sp_Pdq) (h2 : T.sp n_math_bits_Len = some sp_Len) : Verified T ir_slices_Sort_int_int sp_Sort := by
  refine Verified.mkx rfl ?_
  rintro ds ob ⟨l, rfl, rfl, hl⟩ R hR
  rw [sort_F] at hR
  have x1 : sp_Pdq.hx = some hs_Pdq := rfl
  have x2 : sp_Len.hx = none := rfl
  have f1 := pdq_F l
  have p1 := fun k => pdq_pre (l := l) k hl
  have f2 := len_F l.length
  have p2 := len_pre (n := l.length) (by omega) (by omega)
  have hm : ((l.length : Int) % 18446744073709551616) = l.length := by omega
  simp (implicitDefEqProofs := false) (maxSteps := 10000000) [ir_slices_Sort_int_int, h1, x1, f1, p1, h2, x2, f2, p2, hm]
  refine ⟨by simp only [inR]; omega, ?_⟩
  exact hR _ [] (by simp (implicitDefEqProofs := false))
set_option maxRecDepth 100000 in
set_option maxHeartbeats 8000000 in
theorem v_Len64 : Verified T ir_math_bits_Len64 sp_Len := by
  refine Verified.mk ?_
  rintro ds ⟨n, rfl, h0, h1⟩
  rw [len_F]
  have : n = 0 ∨ n = 1 ∨ n = 2 ∨ n = 3 ∨ n = 4 ∨ n = 5 ∨ n = 6 ∨ n = 7 ∨ n = 8 ∨ n = 9 ∨ n = 10 ∨ n = 11 ∨ n = 12 := by omega
  rcases this with rfl | rfl | rfl | rfl | rfl | rfl | rfl | rfl | rfl | rfl | rfl | rfl | rfl <;> simp (implicitDefEqProofs := false) (maxSteps := 10000000) [ir_math_bits_Len64, bitsOf, inR]
theorem v_Len (h1 : T.sp n_math_bits_Len64 = some sp_Len) : Verified T ir_math_bits_Len sp_Len := by
  refine Verified.mk ?_
  rintro ds ⟨n, rfl, h0, h2⟩
  have x1 : sp_Len.hx = none := rfl
  have p1 := len_pre h0 h2
  have f1 := len_F n
  simp (implicitDefEqProofs := false) (maxSteps := 10000000) [ir_math_bits_Len, h1, x1, f1, p1]
end
end Go.Proofs.YtchbnpjegacobaaDoor
