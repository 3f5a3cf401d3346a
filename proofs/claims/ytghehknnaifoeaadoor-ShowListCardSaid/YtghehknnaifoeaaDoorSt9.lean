/-
  slices.DeleteFunc of locks and of doubts: what is left is what the function does not hold of. Conditions: those of each specification's 'pre', and that the functions that are called are what theirs say. (Printed by program.)
-/
import Derived.Test.YtghehknnaifoeaaDoorSt1
set_option linter.unusedVariables false
set_option linter.unusedSimpArgs false
namespace Go.Proofs.YtghehknnaifoeaaDoor
open Go Go.Vcg

theorem filter_take_all {α : Type} (g : α → Bool) (l : List α) (i : Nat) (h : ∀ t (ht : t < l.length), t < i → g l[t] = false) : (l.take i).filter (fun x => !g x) = l.take i := by
  refine List.filter_eq_self.2 fun x hx => ?_
  obtain ⟨t, ht, rfl⟩ := List.getElem_of_mem hx
  rw [List.length_take] at ht
  have := h t (by omega) (by omega)
  simp [this]
theorem idxOf_spec {α : Type} (g : α → Bool) (l : List α) : (idxOf g l = -1 ∧ ∀ t (ht : t < l.length), g l[t] = false) ∨ ∃ i, ∃ hi : i < l.length, idxOf g l = i ∧ g l[i] = true ∧ ∀ t (ht : t < l.length), t < i → g l[t] = false := by
  by_cases h : l.any g = true
  · right
    have hi : l.findIdx g < l.length := List.findIdx_lt_length_of_exists (by simpa using h)
    refine ⟨l.findIdx g, hi, by rw [idxOf, if_pos h], List.findIdx_getElem (w := hi), fun t ht htl => ?_⟩
    have := List.not_of_lt_findIdx htl
    simpa using this
  · left
    refine ⟨by rw [idxOf, if_neg h], fun t ht => ?_⟩
    have h' : l.any g = false := by simpa using h
    rw [List.any_eq_false] at h'
    simpa using h' l[t] (List.getElem_mem ht)
/-- An array whose head is what is kept; what is ahead of j has been looked at; l from j on stands as it was. -/
def dArr {α : Type} (C : α → List D) (K : List α) (M : List (List D)) (l : List α) (j m : Nat) (Z : List D) : List (List D) := K.map C ++ M ++ (l.drop j).map C ++ List.replicate m Z
section
variable {α : Type} {C : α → List D} {K : List α} {M : List (List D)} {l : List α} {j m : Nat} {Z : List D}
theorem dArr_len (h : K.length + M.length = j) (hj : j ≤ l.length) : (dArr C K M l j m Z).length = l.length + m := by
  simp [dArr]; omega
theorem dArr_elem (h : K.length + M.length = j) (hj : j < l.length) : elem (dArr C K M l j m Z) j = C l[j] := by
  have e : dArr C K M l j m Z = (K.map C ++ M) ++ (C l[j] :: ((l.drop (j + 1)).map C ++ List.replicate m Z)) := by
    rw [dArr, List.drop_eq_getElem_cons hj, List.map_cons]
    simp only [List.append_assoc, List.cons_append]
  have hl : (K.map C ++ M).length = j := by simpa using h
  rw [e, elem, List.getD, List.getElem?_append_right (by omega), hl]
  simp
theorem dArr_skip (hj : j < l.length) : dArr C K M l j m Z = dArr C K (M ++ [C l[j]]) l (j + 1) m Z := by
  rw [dArr, List.drop_eq_getElem_cons hj, List.map_cons, dArr]
  simp only [List.append_assoc, List.cons_append, List.nil_append]
theorem dArr_set (hj : j < l.length) (hM : 1 ≤ M.length) : (dArr C K M l j m Z).set K.length (C l[j]) = dArr C (K ++ [l[j]]) (M.drop 1 ++ [C l[j]]) l (j + 1) m Z := by
  cases M with
  | nil => simp at hM
  | cons x M =>
    have hl : (K.map C).length = K.length := by simp
    simp only [dArr, List.append_assoc]
    rw [List.set_append_right _ _ (by omega), hl, Nat.sub_self]
    rw [List.drop_eq_getElem_cons hj, List.map_cons]
    simp only [List.length_map, Nat.sub_self, List.cons_append, List.set_cons_zero, List.map_append, List.map_cons, List.map_nil, List.append_assoc, List.nil_append, List.drop_one, List.tail_cons]
theorem dArr_head {n : Nat} (hM : 1 ≤ M.length) (h : ∀ e ∈ M, e.length = n) : List.drop n (elem (dArr C K M l j m Z) K.length) = [] := by
  refine List.drop_eq_nil_of_le ?_
  cases M with
  | nil => simp at hM
  | cons x M =>
    have hl : (K.map C).length = K.length := by simp
    have e : elem (dArr C K (x :: M) l j m Z) K.length = x := by
      simp only [dArr, List.append_assoc]
      rw [elem, List.getD, List.getElem?_append_right (by omega), hl, Nat.sub_self]
      rfl
    rw [e, h x (List.mem_cons_self ..)]
    exact Nat.le_refl _
theorem dArr_over {z : List D} (h : K.length + M.length = l.length) : (over (dArr C K M l l.length m Z) K.length (List.replicate (l.length - K.length) z)).length = l.length + m := by
  rw [length_over (by rw [dArr_len h (Nat.le_refl _), List.length_replicate]; omega), dArr_len h (Nat.le_refl _)]
theorem dArr_clear {z : List D} (h : K.length + M.length = l.length) : (over (dArr C K M l l.length m Z) K.length (List.replicate (l.length - K.length) z)).take K.length = K.map C := by
  have hl : (K.map C).length = K.length := by simp
  have e : dArr C K M l l.length m Z = K.map C ++ (M ++ List.replicate m Z) := by simp [dArr]
  rw [e, over, ← hl, List.take_left, List.append_assoc, List.take_left]
theorem dArr_start {i : Nat} (hi : i < l.length) : l.map C ++ List.replicate m Z = dArr C (l.take i) [C l[i]] l (i + 1) m Z := by
  have e : l = l.take i ++ l[i] :: l.drop (i + 1) := by rw [← List.drop_eq_getElem_cons hi, List.take_append_drop]
  have e2 : l.map C = (l.take i).map C ++ [C l[i]] ++ (l.drop (i + 1)).map C := by
    conv => lhs; rw [e]
    rw [List.map_append, List.map_cons]
    simp only [List.append_assoc, List.cons_append, List.nil_append]
  rw [dArr, e2]
/-- What is kept of the first j. -/
def kept (g : α → Bool) (l : List α) (j : Nat) : List α := (l.take j).filter (fun x => !(g x))
theorem kept_succ (g : α → Bool) (hj : j < l.length) : kept g l (j + 1) = kept g l j ++ (if g l[j] then [] else [l[j]]) := by
  rw [kept, kept, List.take_succ_eq_append_getElem hj, List.filter_append]
  cases h : g l[j] <;> simp [h]
theorem kept_start (g : α → Bool) {i : Nat} (hi : i < l.length) (hg : g l[i] = true) (hb : ∀ t (ht : t < l.length), t < i → g l[t] = false) : kept g l (i + 1) = l.take i := by
  rw [kept_succ g hi, hg, if_pos rfl, List.append_nil]
  exact filter_take_all g l i hb
theorem kept_all (g : α → Bool) (l : List α) : kept g l l.length = l.filter (fun x => !(g x)) := by rw [kept, List.take_length]
end

/-! ### Lk -/
noncomputable def hs_DelL : HSp := {
  pre := fun ds ob => ∃ (l : List Lk) (f : Nat) (caps : List D) (g : Lk → Bool), ds = [.row 1000000000, .clo f caps] ∧ ob = [(1000000000, .row 6 (l.map lkC))] ∧ CloL f caps g ∧ l.length ≤ 10000
  F := fun ds ob => match ds, ob with
    | [_, .clo f caps], [(_, .row _ es)] => (.row 0, [(0, .row 6 (((lsOf lkOf (.fz 6 es)).filter fun x => !(gL f caps x)).map lkC))])
    | _, _ => (.any, []) }
noncomputable def sp_DelL : Sp := { pre := fun _ => True, F := fun _ => .any, hx := some hs_DelL }
theorem DelL_pre {l : List Lk} {f : Nat} {caps : List D} {g : Lk → Bool} (h : CloL f caps g) (hl : l.length ≤ 10000) : hs_DelL.pre [.row 1000000000, .clo f caps] [(1000000000, .row 6 (l.map lkC))] = True := by
  simp only [hs_DelL, eq_iff_iff, iff_true]; exact ⟨l, f, caps, g, rfl, rfl, h, hl⟩
theorem DelL_F (l : List Lk) {f : Nat} {caps : List D} {g : Lk → Bool} (h : CloL f caps g) : hs_DelL.F [.row 1000000000, .clo f caps] [(1000000000, .row 6 (l.map lkC))] = (.row 0, [(0, .row 6 ((l.filter fun x => !(g x)).map lkC))]) := by
  simp only [hs_DelL, lks_of, gL_eq h]

section
variable {T : Tb}
attribute [local simp] k_seq k_block k_skip k_reg k_alt k_cond k_exit k_ret kf_nil kf_seq_n kf_seq_e kf_seq_r kf_blk_n kf_blk_e kf_blk_r kf_lp_n kf_lp_e kf_lp_r kf_cut_n kf_cut_e kf_cut_r mkTm VCops VCalt istep act gd applyE wrapD Opd.ev get_mk set_mk set_mk0 tget16 tset16 tget_0 tset_0 tget_1 tset_1 tget_2 tset_2 tget_3 tset_3 tget_4 tset_4 tget_5 tset_5 tget_6 tset_6 tget_7 tset_7 tget_8 tset_8 tget_9 tset_9 tget_10 tset_10 tget_11 tset_11 tget_12 tset_12 tget_13 tset_13 tget_14 tset_14 tget_15 tset_15 D.un D.gu gus IOp.opds binD fnPost getRes IRes.get oneRes D.out outL D.clos closL D.norow norowL D.lv lvL D.scal scalL D.cells D.cell D.cell' St.lk obPut obDel List.lookup cut pickD splice fillParts fillRows elem_cons newsOf D.pl D.forget forgetL Ob.forget forgetO eqCells sg leD leDL leOb apartK St.le D.keys keysL D.rows rowsL obKeys addKeys reach pos D.ren renL Ob.ren inM outM inObs outObs goneK apartN okNames_eq okNms obNms namesOK_nil namesOK_cons freeOK_nil freeOK_cons D.frz frzL Ob.frz frzO St.frz forgetLs dropObs putObs hcall freeOf keeps baseN shD isShift shMax k_bad VCopsG frz_nil actx actc cnum vwCut St.frzT St.opnT St.clsT D.opn opnL Ob.opn opnO VCou VCcx St.oneS D.objI D.objK scrL D.scr St.opnS St.clsS D.cellS D.fzs fzsL k_mrk k_mrq IOper.gh
set_option maxRecDepth 100000 in
set_option maxHeartbeats 8000000 in
theorem v_DelL (hc : ClosL T) (h1 : T.sp n_slices_IndexFunc_reredos_api_Lock_reredos_api_Lock = some sp_IndexL) : Verified T ir_slices_DeleteFunc_reredos_api_Lock_reredos_api_Lock sp_DelL := by
  refine Verified.mkx rfl ?_
  rintro ds ob ⟨l, f, caps, g, rfl, rfl, h, hl⟩ R hR
  rw [DelL_F l h] at hR
  have hsp := hc f caps g h
  have hlt := h.lt
  have hx : (sp_cloL f).hx = none := rfl
  have hx1 : sp_IndexL.hx = none := rfl
  have hcn : cnum T f = f := by rw [cnum, hsp]; rfl
  have hcF := fun x => cloL_F h x
  have hcP := fun x => cloL_pre h x
  have hcl : closL caps = true := by cases h <;> rfl
  have hlv : ∀ lk, lvL lk caps = true := fun lk => by cases h <;> rfl
  have hout : ∀ lk, outL lk caps = caps := fun lk => by cases h <;> rfl
  have hfz : ∀ lk ks, frzL lk ks caps = caps := fun lk ks => by cases h <;> rfl
  have hnr : norowL caps = true := by cases h <;> rfl
  have hop : ∀ k sz n cp, opnL k sz n cp caps = caps := fun k sz n cp => by cases h <;> rfl
  have hrw : rowsL caps = [] := by cases h <;> rfl
  have hfg : ∀ k, forgetL k caps = caps := fun k => by cases h <;> rfl
  have iF := indexL_F (l := l) h
  have iP := indexL_pre (l := l) h (by omega)
  rcases idxOf_spec g l with ⟨hi, hall⟩ | ⟨i, hil, hi, hgi, hbef⟩
  · rw [hi] at iF
    have hfl : l.filter (fun x => !(g x)) = l := List.filter_eq_self.2 fun x hx => by
      obtain ⟨t, ht, rfl⟩ := List.getElem_of_mem hx
      simp [hall t ht]
    rw [hfl] at hR
    simp (implicitDefEqProofs := false) (maxSteps := 10000000) [ir_slices_DeleteFunc_reredos_api_Lock_reredos_api_Lock, h1, hx1, iF, iP, hcl, hlv, hout, hnr]
    exact hR _ [(0, some 1000000000)] (by simp (implicitDefEqProofs := false) (maxSteps := 10000000))
  · rw [hi] at iF
    have hin : ¬ ((i : Int) = -1) := by omega
    have hne : l.map lkC ≠ [] := by
      intro he
      rw [List.map_eq_nil_iff] at he
      subst he
      simp at hil
    simp (implicitDefEqProofs := false) (maxSteps := 10000000) [ir_slices_DeleteFunc_reredos_api_Lock_reredos_api_Lock, h1, hx1, iF, iP, hcl, hlv, hout, hnr, hin, hne, hop]
    intro m hm
    refine ⟨by simp only [inR]; omega, ?_⟩
    rw [dArr_start (C := lkC) hil]
    have hK0 := kept_start g hil hgi hbef
    have hK0l : (l.take i).length = i := by simp; omega
    refine k_loop (ι := {x : List (List D) × Nat // x.2 ≤ l.length ∧ (kept g l x.2).length + x.1.length = x.2 ∧ 1 ≤ x.1.length ∧ ∀ e ∈ x.1, e.length = 6}) (fun x => ⟨mkTm 42 0 [(0, .vw 1000000000 6 0 l.length (l.length + m)), (1, .clo f caps), (5, .int .i64 (kept g l x.1.2).length), (6, .int .i64 x.1.2)], [(1000000000, .arr 6 (dArr lkC (kept g l x.1.2) x.1.1 l x.1.2 m [D.any, D.any, D.any, D.any, D.any, D.any]))]⟩)
      (fun x => l.length - x.1.2) [] ⟨([lkC l[i]], i + 1), by simp only; omega, by simp only [hK0, hK0l, List.length_singleton], by simp, by simp [lkC]⟩ (by simp (implicitDefEqProofs := false) (maxSteps := 10000000) [hcl, hK0, hK0l]) ?_
    rintro ⟨⟨M, j⟩, hj, hKM, hM, hMe⟩ P hQ
    simp only at hj hKM hM hMe
    have hlen := dArr_len (C := lkC) (m := m) (Z := [D.any, D.any, D.any, D.any, D.any, D.any]) hKM hj
    by_cases hjl : j < l.length
    · have hjl' : (j : Int) < l.length := by omega
      have hel := dArr_elem (C := lkC) (m := m) (Z := [D.any, D.any, D.any, D.any, D.any, D.any]) hKM hjl
      have hst := dArr_set (C := lkC) (K := kept g l j) (m := m) (Z := [D.any, D.any, D.any, D.any, D.any, D.any]) hjl hM
      have hsk := dArr_skip (C := lkC) (K := kept g l j) (M := M) (m := m) (Z := [D.any, D.any, D.any, D.any, D.any, D.any]) hjl
      have hhd := dArr_head (C := lkC) (K := kept g l j) (l := l) (j := j) (m := m) (Z := [D.any, D.any, D.any, D.any, D.any, D.any]) hM hMe
      have hkn := kept_succ g hjl
      have hF' := hcF l[j]
      have hP' := hcP l[j]
      have hkj : (kept g l j).length < l.length + m := by omega
      generalize l[j] = x at hel hst hsk hkn hF' hP'
      clear hcF hcP
      cases hgx : g x
      · rw [hgx] at hF' hkn
        simp only [Bool.false_eq_true, if_false] at hkn
        obtain ⟨a, b, k, w, v, q⟩ := x
        simp only [lkC] at hel hF' hP' hst
        simp (implicitDefEqProofs := false) (maxSteps := 10000000) [ir_slices_DeleteFunc_reredos_api_Lock_reredos_api_Lock_b0, hjl', hjl, hel, hlen, hlt, hcn, hsp, hx, hF', hP', hcl, hlv, hout, hfz, hfg, hnr, hrw, hop, hkj, hhd]
        exact ⟨by omega, by omega, by simp only [inR]; omega, by simp only [inR]; omega, hQ _ [] ⟨(M.drop 1 ++ [lkC ⟨a, b, k, w, v, q⟩], j + 1), by simp only; omega, by simp only [hkn, List.length_append, List.length_drop, List.length_singleton]; omega, by simp, by simp only; intro e he; rcases List.mem_append.1 he with he | he; exact hMe e (List.mem_of_mem_drop he); rw [List.mem_singleton.1 he]; rfl⟩ (by simp (implicitDefEqProofs := false) (maxSteps := 10000000) [hcl, hkn, hst, hfz, hfg, hrw, lkC]) (by simp only; omega)⟩
      · rw [hgx] at hF' hkn
        simp only [if_true, List.append_nil] at hkn
        obtain ⟨a, b, k, w, v, q⟩ := x
        simp only [lkC] at hel hF' hP' hsk
        simp (implicitDefEqProofs := false) (maxSteps := 10000000) [ir_slices_DeleteFunc_reredos_api_Lock_reredos_api_Lock_b0, hjl', hjl, hel, hlen, hlt, hcn, hsp, hx, hF', hP', hcl, hlv, hout, hfz, hfg, hnr, hrw, hop]
        exact ⟨by omega, by simp only [inR]; omega, hQ _ [] ⟨(M ++ [lkC ⟨a, b, k, w, v, q⟩], j + 1), by simp only; omega, by simp only [hkn, List.length_append, List.length_singleton]; omega, by simp, by simp only; intro e he; rcases List.mem_append.1 he with he | he; exact hMe e he; rw [List.mem_singleton.1 he]; rfl⟩ (by simp (implicitDefEqProofs := false) (maxSteps := 10000000) [hcl, hkn, hsk, hfz, hfg, hrw, lkC]) (by simp only; omega)⟩
    · obtain rfl : j = l.length := by omega
      have hov := fun z => dArr_over (C := lkC) (K := kept g l l.length) (M := M) (l := l) (m := m) (Z := [D.any, D.any, D.any, D.any, D.any, D.any]) (z := z) hKM
      have hclr := fun z => dArr_clear (C := lkC) (K := kept g l l.length) (M := M) (l := l) (m := m) (Z := [D.any, D.any, D.any, D.any, D.any, D.any]) (z := z) hKM
      simp (implicitDefEqProofs := false) (maxSteps := 10000000) [ir_slices_DeleteFunc_reredos_api_Lock_reredos_api_Lock_b0, ir_slices_DeleteFunc_reredos_api_Lock_reredos_api_Lock_r1, hlen, hclr, hov]
      refine ⟨by omega, by omega, by omega, ⟨by omega, ?_⟩, hR _ [(0, some 41)] ?_⟩
      · intro x hx c hc
        simp only [lkC, List.mem_cons, List.mem_nil_iff, or_false] at hc
        rcases hc with rfl | rfl | rfl | rfl | rfl | rfl <;> rfl
      · simp (implicitDefEqProofs := false) (maxSteps := 10000000) [kept_all]
end

/-! ### Db -/
noncomputable def hs_DelD : HSp := {
  pre := fun ds ob => ∃ (l : List Db) (f : Nat) (caps : List D) (g : Db → Bool), ds = [.row 1000000000, .clo f caps] ∧ ob = [(1000000000, .row 3 (l.map dbC))] ∧ CloD f caps g ∧ l.length ≤ 10000
  F := fun ds ob => match ds, ob with
    | [_, .clo f caps], [(_, .row _ es)] => (.row 0, [(0, .row 3 (((lsOf dbOf (.fz 3 es)).filter fun x => !(gD f caps x)).map dbC))])
    | _, _ => (.any, []) }
noncomputable def sp_DelD : Sp := { pre := fun _ => True, F := fun _ => .any, hx := some hs_DelD }
theorem DelD_pre {l : List Db} {f : Nat} {caps : List D} {g : Db → Bool} (h : CloD f caps g) (hl : l.length ≤ 10000) : hs_DelD.pre [.row 1000000000, .clo f caps] [(1000000000, .row 3 (l.map dbC))] = True := by
  simp only [hs_DelD, eq_iff_iff, iff_true]; exact ⟨l, f, caps, g, rfl, rfl, h, hl⟩
theorem DelD_F (l : List Db) {f : Nat} {caps : List D} {g : Db → Bool} (h : CloD f caps g) : hs_DelD.F [.row 1000000000, .clo f caps] [(1000000000, .row 3 (l.map dbC))] = (.row 0, [(0, .row 3 ((l.filter fun x => !(g x)).map dbC))]) := by
  simp only [hs_DelD, dbs_of, gD_eq h]

section
variable {T : Tb}
attribute [local simp] k_seq k_block k_skip k_reg k_alt k_cond k_exit k_ret kf_nil kf_seq_n kf_seq_e kf_seq_r kf_blk_n kf_blk_e kf_blk_r kf_lp_n kf_lp_e kf_lp_r kf_cut_n kf_cut_e kf_cut_r mkTm VCops VCalt istep act gd applyE wrapD Opd.ev get_mk set_mk set_mk0 tget16 tset16 tget_0 tset_0 tget_1 tset_1 tget_2 tset_2 tget_3 tset_3 tget_4 tset_4 tget_5 tset_5 tget_6 tset_6 tget_7 tset_7 tget_8 tset_8 tget_9 tset_9 tget_10 tset_10 tget_11 tset_11 tget_12 tset_12 tget_13 tset_13 tget_14 tset_14 tget_15 tset_15 D.un D.gu gus IOp.opds binD fnPost getRes IRes.get oneRes D.out outL D.clos closL D.norow norowL D.lv lvL D.scal scalL D.cells D.cell D.cell' St.lk obPut obDel List.lookup cut pickD splice fillParts fillRows elem_cons newsOf D.pl D.forget forgetL Ob.forget forgetO eqCells sg leD leDL leOb apartK St.le D.keys keysL D.rows rowsL obKeys addKeys reach pos D.ren renL Ob.ren inM outM inObs outObs goneK apartN okNames_eq okNms obNms namesOK_nil namesOK_cons freeOK_nil freeOK_cons D.frz frzL Ob.frz frzO St.frz forgetLs dropObs putObs hcall freeOf keeps baseN shD isShift shMax k_bad VCopsG frz_nil actx actc cnum vwCut St.frzT St.opnT St.clsT D.opn opnL Ob.opn opnO VCou VCcx St.oneS D.objI D.objK scrL D.scr St.opnS St.clsS D.cellS D.fzs fzsL k_mrk k_mrq IOper.gh
set_option maxRecDepth 100000 in
set_option maxHeartbeats 8000000 in
theorem v_DelD (hc : ClosD T) (h1 : T.sp n_slices_IndexFunc_reredos_api_Doubt_reredos_api_Doubt = some sp_IndexD) : Verified T ir_slices_DeleteFunc_reredos_api_Doubt_reredos_api_Doubt sp_DelD := by
  refine Verified.mkx rfl ?_
  rintro ds ob ⟨l, f, caps, g, rfl, rfl, h, hl⟩ R hR
  rw [DelD_F l h] at hR
  have hsp := hc f caps g h
  have hlt := h.lt
  have hx : (sp_cloD f).hx = none := rfl
  have hx1 : sp_IndexD.hx = none := rfl
  have hcn : cnum T f = f := by rw [cnum, hsp]; rfl
  have hcF := fun x => cloD_F h x
  have hcP := fun x => cloD_pre h x
  have hcl : closL caps = true := by cases h <;> rfl
  have hlv : ∀ lk, lvL lk caps = true := fun lk => by cases h <;> rfl
  have hout : ∀ lk, outL lk caps = caps := fun lk => by cases h <;> rfl
  have hfz : ∀ lk ks, frzL lk ks caps = caps := fun lk ks => by cases h <;> rfl
  have hnr : norowL caps = true := by cases h <;> rfl
  have hop : ∀ k sz n cp, opnL k sz n cp caps = caps := fun k sz n cp => by cases h <;> rfl
  have hrw : rowsL caps = [] := by cases h <;> rfl
  have hfg : ∀ k, forgetL k caps = caps := fun k => by cases h <;> rfl
  have iF := indexD_F (l := l) h
  have iP := indexD_pre (l := l) h (by omega)
  rcases idxOf_spec g l with ⟨hi, hall⟩ | ⟨i, hil, hi, hgi, hbef⟩
  · rw [hi] at iF
    have hfl : l.filter (fun x => !(g x)) = l := List.filter_eq_self.2 fun x hx => by
      obtain ⟨t, ht, rfl⟩ := List.getElem_of_mem hx
      simp [hall t ht]
    rw [hfl] at hR
    simp (implicitDefEqProofs := false) (maxSteps := 10000000) [ir_slices_DeleteFunc_reredos_api_Doubt_reredos_api_Doubt, h1, hx1, iF, iP, hcl, hlv, hout, hnr]
    exact hR _ [(0, some 1000000000)] (by simp (implicitDefEqProofs := false) (maxSteps := 10000000))
  · rw [hi] at iF
    have hin : ¬ ((i : Int) = -1) := by omega
    have hne : l.map dbC ≠ [] := by
      intro he
      rw [List.map_eq_nil_iff] at he
      subst he
      simp at hil
    simp (implicitDefEqProofs := false) (maxSteps := 10000000) [ir_slices_DeleteFunc_reredos_api_Doubt_reredos_api_Doubt, h1, hx1, iF, iP, hcl, hlv, hout, hnr, hin, hne, hop]
    intro m hm
    refine ⟨by simp only [inR]; omega, ?_⟩
    rw [dArr_start (C := dbC) hil]
    have hK0 := kept_start g hil hgi hbef
    have hK0l : (l.take i).length = i := by simp; omega
    refine k_loop (ι := {x : List (List D) × Nat // x.2 ≤ l.length ∧ (kept g l x.2).length + x.1.length = x.2 ∧ 1 ≤ x.1.length ∧ ∀ e ∈ x.1, e.length = 3}) (fun x => ⟨mkTm 42 0 [(0, .vw 1000000000 3 0 l.length (l.length + m)), (1, .clo f caps), (5, .int .i64 (kept g l x.1.2).length), (6, .int .i64 x.1.2)], [(1000000000, .arr 3 (dArr dbC (kept g l x.1.2) x.1.1 l x.1.2 m [D.any, D.any, D.any]))]⟩)
      (fun x => l.length - x.1.2) [] ⟨([dbC l[i]], i + 1), by simp only; omega, by simp only [hK0, hK0l, List.length_singleton], by simp, by simp [dbC]⟩ (by simp (implicitDefEqProofs := false) (maxSteps := 10000000) [hcl, hK0, hK0l]) ?_
    rintro ⟨⟨M, j⟩, hj, hKM, hM, hMe⟩ P hQ
    simp only at hj hKM hM hMe
    have hlen := dArr_len (C := dbC) (m := m) (Z := [D.any, D.any, D.any]) hKM hj
    by_cases hjl : j < l.length
    · have hjl' : (j : Int) < l.length := by omega
      have hel := dArr_elem (C := dbC) (m := m) (Z := [D.any, D.any, D.any]) hKM hjl
      have hst := dArr_set (C := dbC) (K := kept g l j) (m := m) (Z := [D.any, D.any, D.any]) hjl hM
      have hsk := dArr_skip (C := dbC) (K := kept g l j) (M := M) (m := m) (Z := [D.any, D.any, D.any]) hjl
      have hhd := dArr_head (C := dbC) (K := kept g l j) (l := l) (j := j) (m := m) (Z := [D.any, D.any, D.any]) hM hMe
      have hkn := kept_succ g hjl
      have hF' := hcF l[j]
      have hP' := hcP l[j]
      have hkj : (kept g l j).length < l.length + m := by omega
      generalize l[j] = x at hel hst hsk hkn hF' hP'
      clear hcF hcP
      cases hgx : g x
      · rw [hgx] at hF' hkn
        simp only [Bool.false_eq_true, if_false] at hkn
        obtain ⟨a, b, q⟩ := x
        simp only [dbC] at hel hF' hP' hst
        simp (implicitDefEqProofs := false) (maxSteps := 10000000) [ir_slices_DeleteFunc_reredos_api_Doubt_reredos_api_Doubt_b0, hjl', hjl, hel, hlen, hlt, hcn, hsp, hx, hF', hP', hcl, hlv, hout, hfz, hfg, hnr, hrw, hop, hkj, hhd]
        exact ⟨by omega, by omega, by simp only [inR]; omega, by simp only [inR]; omega, hQ _ [] ⟨(M.drop 1 ++ [dbC ⟨a, b, q⟩], j + 1), by simp only; omega, by simp only [hkn, List.length_append, List.length_drop, List.length_singleton]; omega, by simp, by simp only; intro e he; rcases List.mem_append.1 he with he | he; exact hMe e (List.mem_of_mem_drop he); rw [List.mem_singleton.1 he]; rfl⟩ (by simp (implicitDefEqProofs := false) (maxSteps := 10000000) [hcl, hkn, hst, hfz, hfg, hrw, dbC]) (by simp only; omega)⟩
      · rw [hgx] at hF' hkn
        simp only [if_true, List.append_nil] at hkn
        obtain ⟨a, b, q⟩ := x
        simp only [dbC] at hel hF' hP' hsk
        simp (implicitDefEqProofs := false) (maxSteps := 10000000) [ir_slices_DeleteFunc_reredos_api_Doubt_reredos_api_Doubt_b0, hjl', hjl, hel, hlen, hlt, hcn, hsp, hx, hF', hP', hcl, hlv, hout, hfz, hfg, hnr, hrw, hop]
        exact ⟨by omega, by simp only [inR]; omega, hQ _ [] ⟨(M ++ [dbC ⟨a, b, q⟩], j + 1), by simp only; omega, by simp only [hkn, List.length_append, List.length_singleton]; omega, by simp, by simp only; intro e he; rcases List.mem_append.1 he with he | he; exact hMe e he; rw [List.mem_singleton.1 he]; rfl⟩ (by simp (implicitDefEqProofs := false) (maxSteps := 10000000) [hcl, hkn, hsk, hfz, hfg, hrw, dbC]) (by simp only; omega)⟩
    · obtain rfl : j = l.length := by omega
      have hov := fun z => dArr_over (C := dbC) (K := kept g l l.length) (M := M) (l := l) (m := m) (Z := [D.any, D.any, D.any]) (z := z) hKM
      have hclr := fun z => dArr_clear (C := dbC) (K := kept g l l.length) (M := M) (l := l) (m := m) (Z := [D.any, D.any, D.any]) (z := z) hKM
      simp (implicitDefEqProofs := false) (maxSteps := 10000000) [ir_slices_DeleteFunc_reredos_api_Doubt_reredos_api_Doubt_b0, ir_slices_DeleteFunc_reredos_api_Doubt_reredos_api_Doubt_r1, hlen, hclr, hov]
      refine ⟨by omega, by omega, by omega, ⟨by omega, ?_⟩, hR _ [(0, some 41)] ?_⟩
      · intro x hx c hc
        simp only [dbC, List.mem_cons, List.mem_nil_iff, or_false] at hc
        rcases hc with rfl | rfl | rfl <;> rfl
      · simp (implicitDefEqProofs := false) (maxSteps := 10000000) [kept_all]
end
end Go.Proofs.YtghehknnaifoeaaDoor
