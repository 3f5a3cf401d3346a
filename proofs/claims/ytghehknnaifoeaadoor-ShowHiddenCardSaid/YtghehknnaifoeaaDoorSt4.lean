/-
  Stores: where a key's item is, and whose hand is on a store. Conditions: those of each specification's 'pre', and that the functions that are called are what theirs say.
-/
import Derived.Test.YtghehknnaifoeaaDoorSt3
set_option linter.unusedVariables false
set_option linter.unusedSimpArgs false
namespace Go.Proofs.YtghehknnaifoeaaDoor
open Go Go.Vcg

def cmpI (a b : Int) : Int := if a < b then -1 else if b < a then 1 else 0
def sp_isNaN : Sp := { pre := fun ds => ∃ a : Int, ds = [.int .i64 a], F := fun _ => .bool false }
def sp_Compare : Sp := { pre := fun ds => ∃ a b : Int, ds = [.int .i64 a, .int .i64 b], F := fun | [.int _ a, .int _ b] => .int .i64 (cmpI a b) | _ => .any }
def sp_at1 : Sp := { pre := fun ds => ∃ (x : It) (k : Int), ds = [.agg (itC x), .int .i64 k], F := fun | [.agg x, .int _ k] => .int .i64 (cmpI (itOf x).key k) | _ => .any }
/-- The keys go up. -/
def sortK (l : List It) : Prop := ∀ i j (hi : i < l.length) (hj : j < l.length), i < j → l[i].key < l[j].key
def posI (l : List It) (k : Int) : Nat := l.findIdx fun x => decide (k ≤ x.key)
def hasK (l : List It) (k : Int) : Bool := l.any fun x => decide (x.key = k)
def sp_BinS : Sp := { pre := fun ds => ∃ (l : List It) (k : Int), ds = [.fz 3 (l.map itC), .int .i64 k, .clo n_store_at_1 []] ∧ sortK l ∧ l.length ≤ 100000, F := fun | [x, .int _ k, _] => .tup [.int .i64 (posI (lsOf itOf x) k), .bool (hasK (lsOf itOf x) k)] | _ => .any }
def sp_at : Sp := { pre := fun ds => ∃ (l : List It) (k : Int), ds = [.fz 3 (l.map itC), .int .i64 k] ∧ sortK l ∧ l.length ≤ 100000, F := fun | [x, .int _ k] => .tup [.int .i64 (posI (lsOf itOf x) k), .bool (hasK (lsOf itOf x) k)] | _ => .any }
def itemAt (l : List It) (k : Int) : It := if hasK l k = true then l.getD (posI l k) it0 else ⟨k, 0, 0⟩
def sp_item : Sp := { pre := fun ds => ∃ (s : Sto) (k : Int), ds = [stoD s, .int .i64 k] ∧ sortK s.items ∧ fewS s, F := fun | [s, .int _ k] => .agg (itC (itemAt (stoOf s).items k)) | _ => .any }

theorem sortK_ok {l : List It} (h : okItems l l.length) : sortK l := by
  have step : ∀ (d i : Nat) (hj : i + d + 1 < l.length), (l[i]'(by omega)).key < (l[i + d + 1]'hj).key := by
    intro d
    induction d with
    | zero =>
      intro i hj
      have := (h (i + 1) (by omega)).2 (by omega)
      simp only [List.getD, Nat.add_sub_cancel, List.getElem?_eq_getElem (show i < l.length by omega), List.getElem?_eq_getElem (show i + 1 < l.length by omega), Option.getD_some] at this
      exact this
    | succ d ih =>
      intro i hj
      have h1 := ih i (by omega)
      have h2 := (h (i + d + 1 + 1) (by omega)).2 (by omega)
      simp only [List.getD, Nat.add_sub_cancel, List.getElem?_eq_getElem (show i + d + 1 < l.length by omega), List.getElem?_eq_getElem (show i + d + 1 + 1 < l.length by omega), Option.getD_some] at h2
      have e : i + (d + 1) + 1 = i + d + 1 + 1 := by omega
      simp only [e]
      omega
  intro i j hi hj hij
  obtain ⟨d, rfl⟩ : ∃ d, j = i + d + 1 := ⟨j - i - 1, by omega⟩
  exact step d i hj
theorem posI_eq {l : List It} {k : Int} {p : Nat} (hp : p ≤ l.length) (h1 : ∀ i (hi : i < l.length), i < p → l[i].key < k) (h2 : ∀ i (hi : i < l.length), p ≤ i → k ≤ l[i].key) : posI l k = p := by
  by_cases h : p < l.length
  · exact (List.findIdx_eq h).2 ⟨by simpa using h2 p h (Nat.le_refl _), fun j hj => by
      have := h1 j (by omega) hj
      simp; omega⟩
  · have hpl : p = l.length := by omega
    subst hpl
    refine List.findIdx_eq_length.2 fun x hx => ?_
    obtain ⟨i, hi, rfl⟩ := List.getElem_of_mem hx
    have := h1 i hi hi
    simp; omega
theorem hasK_eq {l : List It} {k : Int} {p : Nat} (h1 : ∀ i (hi : i < l.length), i < p → l[i].key < k) (hs : sortK l) (hp : p < l.length) (h2 : k ≤ l[p].key) : hasK l k = decide (l[p].key = k) := by
  by_cases h : l[p].key = k
  · rw [decide_eq_true h]
    exact List.any_eq_true.2 ⟨l[p], List.getElem_mem hp, by simpa using h⟩
  · rw [decide_eq_false h]
    rw [hasK, Bool.eq_false_iff]
    intro hh
    obtain ⟨x, hx, hk⟩ := List.any_eq_true.1 hh
    obtain ⟨i, hi, rfl⟩ := List.getElem_of_mem hx
    have hk := of_decide_eq_true hk
    rcases Nat.lt_trichotomy i p with g | g | g
    · have := h1 i hi g; omega
    · subst g; exact h hk
    · have := hs p i hp hi g; omega
theorem hasK_none {l : List It} {k : Int} (h1 : ∀ i (hi : i < l.length), l[i].key < k) : hasK l k = false := by
  rw [hasK, Bool.eq_false_iff]
  intro hh
  obtain ⟨x, hx, hk⟩ := List.any_eq_true.1 hh
  obtain ⟨i, hi, rfl⟩ := List.getElem_of_mem hx
  have hk := of_decide_eq_true hk
  have := h1 i hi
  omega
theorem posI_spec {l : List It} (hs : sortK l) (k : Int) : posI l k ≤ l.length ∧ (∀ i (hi : i < l.length), i < posI l k → l[i].key < k) ∧ (∀ i (hi : i < l.length), posI l k ≤ i → k ≤ l[i].key) := by
  refine ⟨List.findIdx_le_length, fun i hi h => ?_, fun i hi h => ?_⟩
  · have := List.not_of_lt_findIdx h
    simp at this; omega
  · by_cases hp : posI l k < l.length
    · have h0 : k ≤ (l[posI l k]'hp).key := by
        exact of_decide_eq_true (List.findIdx_getElem (w := hp))
      rcases Nat.eq_or_lt_of_le h with e | e
      · simp only [← e]; exact h0
      · have := hs (posI l k) i hp hi e; omega
    · omega
theorem hasK_pos {l : List It} (hs : sortK l) {k : Int} (h : hasK l k = true) : ∃ hp : posI l k < l.length, (l[posI l k]'hp).key = k := by
  obtain ⟨p0, p1, p2⟩ := posI_spec hs k
  by_cases hp : posI l k < l.length
  · refine ⟨hp, ?_⟩
    rw [hasK_eq p1 hs hp (p2 _ hp (Nat.le_refl _))] at h
    exact of_decide_eq_true h
  · rw [hasK_none fun i hi => p1 i hi (by omega)] at h
    cases h

section
variable {T : Tb}
attribute [local simp] k_seq k_block k_skip k_reg k_alt k_cond k_exit k_ret kf_nil kf_seq_n kf_seq_e kf_seq_r kf_blk_n kf_blk_e kf_blk_r kf_lp_n kf_lp_e kf_lp_r kf_cut_n kf_cut_e kf_cut_r mkTm VCops VCalt istep act gd applyE wrapD Opd.ev get_mk set_mk set_mk0 tget16 tset16 tget_0 tset_0 tget_1 tset_1 tget_2 tset_2 tget_3 tset_3 tget_4 tset_4 tget_5 tset_5 tget_6 tset_6 tget_7 tset_7 tget_8 tset_8 tget_9 tset_9 tget_10 tset_10 tget_11 tset_11 tget_12 tset_12 tget_13 tset_13 tget_14 tset_14 tget_15 tset_15 D.un D.gu gus IOp.opds binD fnPost getRes IRes.get oneRes D.out outL D.clos closL D.norow norowL D.lv lvL D.scal scalL D.cells D.cell D.cell' St.lk obPut obDel List.lookup cut pickD splice fillParts fillRows elem_cons newsOf D.pl D.forget forgetL Ob.forget forgetO eqCells sg leD leDL leOb apartK St.le D.keys keysL D.rows rowsL obKeys addKeys reach pos D.ren renL Ob.ren inM outM inObs outObs goneK apartN okNames_eq okNms obNms namesOK_nil namesOK_cons freeOK_nil freeOK_cons D.frz frzL Ob.frz frzO St.frz forgetLs dropObs putObs hcall freeOf keeps baseN shD isShift shMax k_bad VCopsG frz_nil actx actc cnum vwCut St.frzT St.opnT St.clsT D.opn opnL Ob.opn opnO VCou VCcx St.oneS D.objI D.objK scrL D.scr St.opnS St.clsS D.cellS D.fzs fzsL k_mrk k_mrq IOper.gh
theorem v_isNaN : Verified T ir_cmp_isNaN_int sp_isNaN := by
  refine Verified.mk ?_
  rintro ds ⟨a, rfl⟩
  simp (implicitDefEqProofs := false) [ir_cmp_isNaN_int, sp_isNaN]
theorem v_Compare (h1 : T.sp n_cmp_isNaN_int = some sp_isNaN) : Verified T ir_cmp_Compare_int sp_Compare := by
  refine Verified.mk ?_
  rintro ds ⟨a, b, rfl⟩
  have hx : sp_isNaN.hx = none := rfl
  have hF : ∀ a, sp_isNaN.F [.int .i64 a] = .bool false := fun _ => rfl
  have hP : ∀ a, sp_isNaN.pre [.int .i64 a] = True := fun a => by simp only [sp_isNaN, eq_iff_iff, iff_true]; exact ⟨a, rfl⟩
  simp only [sp_Compare, cmpI]
  by_cases c1 : a < b
  · simp (implicitDefEqProofs := false) [ir_cmp_Compare_int, h1, hx, hF, hP, c1]
  · by_cases c2 : b < a
    · simp (implicitDefEqProofs := false) [ir_cmp_Compare_int, h1, hx, hF, hP, c1, c2]
    · simp (implicitDefEqProofs := false) [ir_cmp_Compare_int, h1, hx, hF, hP, c1, c2]
theorem v_at1 (h1 : T.sp n_cmp_Compare_int = some sp_Compare) : Verified T ir_store_at_1 sp_at1 := by
  refine Verified.mk ?_
  rintro ds ⟨⟨a, b, c⟩, k, rfl⟩
  have hx : sp_Compare.hx = none := rfl
  have hF : sp_Compare.F [.int .i64 a, .int .i64 k] = .int .i64 (cmpI a k) := rfl
  have hP : sp_Compare.pre [.int .i64 a, .int .i64 k] = True := by simp only [sp_Compare, eq_iff_iff, iff_true]; exact ⟨a, k, rfl⟩
  have hR : sp_at1.F [.agg (itC ⟨a, b, c⟩), .int .i64 k] = .int .i64 (cmpI a k) := rfl
  rw [hR]
  simp (implicitDefEqProofs := false) [ir_store_at_1, itC, h1, hx, hF, hP]
set_option maxRecDepth 100000 in
set_option maxHeartbeats 4000000 in
theorem v_BinS (h1 : T.sp n_store_at_1 = some sp_at1) : Verified T ir_slices_BinarySearchFunc_reredos_api_Item_reredos_api_Item_int sp_BinS := by
  refine Verified.mk ?_
  rintro ds ⟨l, k, rfl, hs, hl⟩
  have hx : sp_at1.hx = none := rfl
  have hcn : cnum T n_store_at_1 = n_store_at_1 := by rw [cnum, h1]; rfl
  have hF : ∀ a b c, sp_at1.F [.agg [.int .i64 a, .int .i64 b, .int .i64 c], .int .i64 k] = .int .i64 (cmpI a k) := fun a b c => rfl
  have hP : ∀ a b c, sp_at1.pre [.agg [.int .i64 a, .int .i64 b, .int .i64 c], .int .i64 k] = True := fun a b c => by
    simp only [sp_at1, eq_iff_iff, iff_true]; exact ⟨⟨a, b, c⟩, k, rfl⟩
  have hlt : n_store_at_1 < 1000000 := by decide
  simp only [sp_BinS, its_of]
  generalize n_store_at_1 = f at h1 hcn hlt
  simp (implicitDefEqProofs := false) [ir_slices_BinarySearchFunc_reredos_api_Item_reredos_api_Item_int]
  refine k_loop (ι := {x : Nat × Nat // x.1 ≤ x.2 ∧ x.2 ≤ l.length ∧ (∀ i (hi : i < l.length), i < x.1 → l[i].key < k) ∧ (∀ i (hi : i < l.length), x.2 ≤ i → k ≤ l[i].key)}) (fun x => ⟨mkTm 49 0 [(0, .fz 3 (l.map itC)), (1, .int .i64 k), (2, .clo f []), (8, .int .i64 l.length), (9, .int .i64 x.1.1), (10, .int .i64 x.1.2)], []⟩)
    (fun x => x.1.2 - x.1.1) [] ⟨(0, l.length), by simp, by simp, fun i hi h => by simp at h, fun i hi h => by simp at h; omega⟩ (by simp (implicitDefEqProofs := false)) ?_
  rintro ⟨⟨lo, hi⟩, q1, q2, q3, q4⟩ P hQ
  simp only at q1 q2 q3 q4
  by_cases hlh : lo < hi
  · have hlh' : (lo : Int) < hi := by omega
    obtain ⟨m, hm⟩ : ∃ m : Nat, ((lo : Int) + hi) / 2 = m := ⟨(lo + hi) / 2, by omega⟩
    have hml : m < l.length := by omega
    have hel := elem_map itC l m hml
    have hup : ∀ i (hi : i < l.length), i ≤ m → l[i].key ≤ l[m].key := fun i hi h => by
      rcases Nat.eq_or_lt_of_le h with e | e
      · subst e; omega
      · have := hs i m hi hml e; omega
    have hdn : ∀ i (hi : i < l.length), m ≤ i → l[m].key ≤ l[i].key := fun i hi h => by
      rcases Nat.eq_or_lt_of_le h with e | e
      · subst e; omega
      · have := hs m i hml hi e; omega
    generalize l[m] = x at hel hup hdn
    obtain ⟨a, b, c⟩ := x
    simp only [itC] at hel hup hdn
    by_cases hc : a < k
    · have hcm : cmpI a k = -1 := by rw [cmpI, if_pos hc]
      simp (implicitDefEqProofs := false) [ir_slices_BinarySearchFunc_reredos_api_Item_reredos_api_Item_int_b0, hlh', hm, hml, hel, hlt, hcn, h1, hx, hF, hP, hcm]
      refine ⟨by simp only [inR]; omega, by simp only [inR]; omega, by simp only [inR]; omega, by simp only [inR]; omega, hQ _ [] ⟨(m + 1, hi), by simp only; omega, q2, fun i hi h => by have := hup i hi (by simp only at h; omega); omega, q4⟩ ?_ (by simp only; omega)⟩
      simp (implicitDefEqProofs := false)
    · have hcm : ¬ cmpI a k < 0 := by rw [cmpI, if_neg hc]; split <;> omega
      simp (implicitDefEqProofs := false) [ir_slices_BinarySearchFunc_reredos_api_Item_reredos_api_Item_int_b0, hlh', hm, hml, hel, hlt, hcn, h1, hx, hF, hP, hcm]
      refine ⟨by simp only [inR]; omega, by simp only [inR]; omega, by simp only [inR]; omega, hQ _ [] ⟨(lo, m), by simp only; omega, by simp only; omega, q3, fun i hi h => by have := hdn i hi h; omega⟩ ?_ (by simp only; omega)⟩
      simp (implicitDefEqProofs := false)
  · have hlh2 : lo = hi := by omega
    subst hlh2
    have hpos := posI_eq q2 q3 q4
    rw [hpos]
    by_cases hb : lo < l.length
    · have hb' : (lo : Int) < l.length := by omega
      have hel := elem_map itC l lo hb
      have hk := hasK_eq q3 hs hb (q4 lo hb (Nat.le_refl _))
      rw [hk]
      generalize l[lo] = x at hel
      obtain ⟨a, b, c⟩ := x
      simp only [itC] at hel ⊢
      have hcm : (cmpI a k = 0) = (a = k) := by
        apply propext
        unfold cmpI
        split
        · omega
        · split
          · omega
          · omega
      simp (implicitDefEqProofs := false) [ir_slices_BinarySearchFunc_reredos_api_Item_reredos_api_Item_int_b0, ir_slices_BinarySearchFunc_reredos_api_Item_reredos_api_Item_int_r1, hb', hb, hel, hlt, hcn, h1, hx, hF, hP, hcm]
      rw [Bool.eq_iff_iff]
      simp [hcm]
    · have hb' : ¬ (lo : Int) < l.length := by omega
      have hk := hasK_none (l := l) (k := k) fun i hi => q3 i hi (by omega)
      rw [hk]
      have hel0 : elem (l.map itC) lo = [] := by
        simp [elem, List.getElem?_eq_none (show l.length ≤ lo by omega)]
      have hF0 : sp_at1.F [.agg [], .int .i64 k] = .int .i64 (cmpI 0 k) := rfl
      simp (implicitDefEqProofs := false) [ir_slices_BinarySearchFunc_reredos_api_Item_reredos_api_Item_int_b0, ir_slices_BinarySearchFunc_reredos_api_Item_reredos_api_Item_int_r1, hb', hel0, hlt, hcn, h1, hx, hF0]
theorem v_at (h1 : T.sp n_slices_BinarySearchFunc_reredos_api_Item_reredos_api_Item_int = some sp_BinS) : Verified T ir_store_at sp_at := by
  refine Verified.mk ?_
  rintro ds ⟨l, k, rfl, hs, hl⟩
  have hx : sp_BinS.hx = none := rfl
  have hF : sp_BinS.F [.fz 3 (l.map itC), .int .i64 k, .clo n_store_at_1 []] = .tup [.int .i64 (posI l k), .bool (hasK l k)] := by
    simp only [sp_BinS, its_of]
  have hP : sp_BinS.pre [.fz 3 (l.map itC), .int .i64 k, .clo n_store_at_1 []] = True := by
    simp only [sp_BinS, eq_iff_iff, iff_true]; exact ⟨l, k, rfl, hs, hl⟩
  simp only [n_store_at_1] at hF hP
  simp only [sp_at, its_of]
  simp (implicitDefEqProofs := false) [ir_store_at, h1, hx, hF, hP]
theorem at_F (l : List It) (k : Int) : sp_at.F [.fz 3 (l.map itC), .int .i64 k] = .tup [.int .i64 (posI l k), .bool (hasK l k)] := by
  simp only [sp_at, its_of]
theorem at_pre {l : List It} {k : Int} (hs : sortK l) (hl : l.length ≤ 100000) : sp_at.pre [.fz 3 (l.map itC), .int .i64 k] = True := by
  simp only [sp_at, eq_iff_iff, iff_true]; exact ⟨l, k, rfl, hs, hl⟩
set_option maxRecDepth 100000 in
set_option maxHeartbeats 4000000 in
theorem v_item (h1 : T.sp n_store_at = some sp_at) : Verified T ir_store_item sp_item := by
  refine Verified.mk ?_
  rintro ds ⟨⟨l, b, c, d⟩, k, rfl, hs, hf⟩
  simp only at hs
  have hl : l.length ≤ 100000 := hf.1
  have hx : sp_at.hx = none := rfl
  have hF := at_F l k
  have hP := at_pre (k := k) hs hl
  simp only [sp_item, stoOf_stoD]
  cases hk : hasK l k
  · have e : itemAt l k = ⟨k, 0, 0⟩ := by rw [itemAt, if_neg (by simp [hk])]
    rw [e]
    rw [hk] at hF
    simp (implicitDefEqProofs := false) [ir_store_item, stoD, stoC, itC, h1, hx, hF, hP]
  · obtain ⟨hp, hpk⟩ := hasK_pos hs hk
    have e : itemAt l k = l[posI l k] := by rw [itemAt, if_pos hk]; simp [List.getD, hp]
    rw [e]
    have hel := elem_map itC l _ hp
    rw [hk] at hF
    generalize l[posI l k] = x at hel
    generalize posI l k = p at hF hel hp
    obtain ⟨u, v, w⟩ := x
    simp only [itC] at hel
    simp (implicitDefEqProofs := false) [ir_store_item, stoD, stoC, itC, h1, hx, hF, hP, hel, hp]

/-! ### A hand on a store -/
def hs_hand : HSp := {
  pre := fun ds ob => ∃ (s : Sto) (t : Tx), ds = [.own 1000000000 0, .agg (txC t)] ∧ ob = [(1000000000, .box [.row 1000000001, .row 1000000002, .row 1000000003, .row 1000000004]), (1000000001, .row 3 (s.items.map itC)), (1000000002, .row 6 (s.locks.map lkC)), (1000000003, .row 3 (s.doubts.map dbC)), (1000000004, .row 2 (s.over.map txC))] ∧ fewS s ∧ s.doubts.length ≤ 10000
  F := fun ds ob => match ds, ob with
    | [_, .agg t], [(_, _), (_, .row _ a), (_, .row _ b), (_, .row _ c), (_, .row _ d)] => (.tup [], [(1000000000, .box [.row 1000000001, .row 1000000002, .row 0, .row 1000000004]), (1000000001, .row 3 a), (1000000002, .row 6 b), (0, .row 3 (if (lsOf dbOf (.fz 3 c)).any (fun x => isTx x.site x.n (txOf t)) = true then c else c ++ [dbC ⟨(txOf t).1, (txOf t).2, 0⟩])), (1000000004, .row 2 d)])
    | _, _ => (.any, []) }
def sp_hand : Sp := { pre := fun _ => True, F := fun _ => .any, hx := some hs_hand }
def handD (l : List Db) (t : Tx) : List Db := if (l.any fun x => isTx x.site x.n t) = true then l else l ++ [⟨t.1, t.2, 0⟩]
theorem hand_pre {s : Sto} (t : Tx) (h : fewS s) (h2 : s.doubts.length ≤ 10000) : hs_hand.pre [.own 1000000000 0, .agg (txC t)] [(1000000000, .box [.row 1000000001, .row 1000000002, .row 1000000003, .row 1000000004]), (1000000001, .row 3 (s.items.map itC)), (1000000002, .row 6 (s.locks.map lkC)), (1000000003, .row 3 (s.doubts.map dbC)), (1000000004, .row 2 (s.over.map txC))] = True := by
  simp only [hs_hand, eq_iff_iff, iff_true]; exact ⟨s, t, rfl, rfl, h, h2⟩
theorem hand_F (t : Tx) (a b d : List (List D)) (c : List Db) : hs_hand.F [.own 1000000000 0, .agg (txC t)] [(1000000000, .box [.row 1000000001, .row 1000000002, .row 1000000003, .row 1000000004]), (1000000001, .row 3 a), (1000000002, .row 6 b), (1000000003, .row 3 (c.map dbC)), (1000000004, .row 2 d)] = (.tup [], [(1000000000, .box [.row 1000000001, .row 1000000002, .row 0, .row 1000000004]), (1000000001, .row 3 a), (1000000002, .row 6 b), (0, .row 3 ((handD c t).map dbC)), (1000000004, .row 2 d)]) := by
  simp only [hs_hand, dbs_of, txOf_txC, handD]
  by_cases h : (c.any fun x => isTx x.site x.n t) = true
  · rw [if_pos h, if_pos h]
  · rw [if_neg h, if_neg h]; simp
set_option maxRecDepth 100000 in
set_option maxHeartbeats 4000000 in
theorem v_hand (h1 : T.sp n_store_doubted = some sp_doubted) : Verified T ir_store_hand sp_hand := by
  refine Verified.mkx rfl ?_
  rintro ds ob ⟨⟨a, b, c, d⟩, ⟨t1, t2⟩, rfl, rfl, hf, hd⟩ R hR
  rw [hand_F] at hR
  simp only at hd
  have hx : sp_doubted.hx = none := rfl
  have hF : sp_doubted.F [.agg [.fz 3 (a.map itC), .fz 6 (b.map lkC), .fz 3 (c.map dbC), .fz 2 (d.map txC)], .agg [.int .i64 t1, .int .i64 t2]] = .bool (c.any fun x => isTx x.site x.n (t1, t2)) := by
    have e : D.agg [.fz 3 (a.map itC), .fz 6 (b.map lkC), .fz 3 (c.map dbC), .fz 2 (d.map txC)] = stoD ⟨a, b, c, d⟩ := rfl
    simp only [sp_doubted, e, stoOf_stoD]
    rfl
  have hP : sp_doubted.pre [.agg [.fz 3 (a.map itC), .fz 6 (b.map lkC), .fz 3 (c.map dbC), .fz 2 (d.map txC)], .agg [.int .i64 t1, .int .i64 t2]] = True := by
    simp only [sp_doubted, eq_iff_iff, iff_true]; exact ⟨_, (t1, t2), rfl, hf⟩
  simp only [handD] at hR
  cases hk : (c.any fun x => isTx x.site x.n (t1, t2))
  · rw [hk] at hF hR
    simp only [Bool.false_eq_true, if_false] at hR
    simp (implicitDefEqProofs := false) [ir_store_hand, txC, h1, hx, hF, hP]
    exact ⟨⟨by omega, by omega⟩, hR _ [(0, some 18)] (by simp (implicitDefEqProofs := false) [dbC])⟩
  · rw [hk] at hF hR
    simp only [if_true] at hR
    simp (implicitDefEqProofs := false) [ir_store_hand, txC, h1, hx, hF, hP]
    exact hR _ [(0, some 1000000003)] (by simp (implicitDefEqProofs := false))
end
end Go.Proofs.YtghehknnaifoeaaDoor
