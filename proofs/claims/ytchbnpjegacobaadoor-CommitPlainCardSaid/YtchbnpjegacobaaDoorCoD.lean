/-
  What looks through jobs, tasks, sites with a function computes what the plain functions beside it say. Conditions: those of each specification's 'pre', and that the functions that are called are what theirs say. (Printed by program.)
-/
import Derived.Test.YtchbnpjegacobaaDoorCoC
set_option linter.unusedVariables false
set_option linter.unusedSimpArgs false
namespace Go.Proofs.YtchbnpjegacobaaDoor
open Go Go.Vcg

theorem is_of (l : List Int) : lsOf intOf (.fz 1 (l.map ic)) = l := lsOf_map (fun _ => rfl) 1 l
def idxOf {α : Type} (g : α → Bool) (l : List α) : Int := if l.any g = true then (l.findIdx g : Nat) else -1
theorem idxOf_found {α : Type} {g : α → Bool} {l : List α} {j : Nat} (h : j < l.length) (hj : g l[j] = true) (hb : ∀ i (hi : i < j), g (l[i]'(by omega)) = false) : idxOf g l = j := by
  have ha : l.any g = true := List.any_eq_true.2 ⟨_, List.getElem_mem h, hj⟩
  have : l.findIdx g = j := by
    refine (List.findIdx_eq h).2 ⟨hj, fun i hi => ?_⟩
    exact hb i hi
  rw [idxOf, if_pos ha, this]
theorem idxOf_none {α : Type} {g : α → Bool} {l : List α} (hb : ∀ i (hi : i < l.length), g l[i] = false) : idxOf g l = -1 := by
  rw [idxOf, if_neg]
  intro h
  obtain ⟨x, hx, hg⟩ := List.any_eq_true.1 h
  obtain ⟨i, hi, rfl⟩ := List.getElem_of_mem hx
  rw [hb i hi] at hg
  cases hg
theorem idxOf_ge {α : Type} (g : α → Bool) (l : List α) : (decide (idxOf g l ≥ 0)) = l.any g := by
  unfold idxOf
  cases h : l.any g
  · simp
  · simp
theorem idxOf_bounds {α : Type} (g : α → Bool) (l : List α) : -1 ≤ idxOf g l ∧ idxOf g l < l.length := by
  unfold idxOf
  split
  · rename_i h
    obtain ⟨x, hx, hg⟩ := List.any_eq_true.1 h
    have := List.findIdx_lt_length_of_exists ⟨x, hx, hg⟩
    omega
  · omega

theorem filter_take_all {α : Type} (g : α → Bool) (l : List α) (i : Nat) (h : ∀ t (ht : t < l.length), t < i → g l[t] = false) : (l.take i).filter (fun x => !g x) = l.take i := by
  refine List.filter_eq_self.2 fun x hx => ?_
  obtain ⟨t, ht, rfl⟩ := List.getElem_of_mem hx
  rw [List.length_take] at ht
  have := h t (by omega) (by omega)
  simp [this]
theorem idxOf_spec {α : Type} (g : α → Bool) (l : List α) : (idxOf g l = -1 ∧ ∀ t (ht : t < l.length), g l[t] = false) ∨ ∃ i, ∃ hi : i < l.length, idxOf g l = i ∧ g l[i] = true ∧ ∀ t (ht : t < l.length), t < i → g l[t] = false := by
  by_cases h : l.any g = true
  · right
    have hi : l.findIdx g < l.length := List.findIdx_lt_length_of_exists (by simpa using h)
    refine ⟨l.findIdx g, hi, by rw [idxOf, if_pos h], List.findIdx_getElem (w := hi), fun t ht htl => ?_⟩
    have := List.not_of_lt_findIdx htl
    simpa using this
  · left
    refine ⟨by rw [idxOf, if_neg h], fun t ht => ?_⟩
    have h' : l.any g = false := by simpa using h
    rw [List.any_eq_false] at h'
    simpa using h' l[t] (List.getElem_mem ht)
/-- An array whose head is what is kept; what is ahead of j has been looked at; l from j on stands as it was. -/
def dArr {α : Type} (C : α → List D) (K : List α) (M : List (List D)) (l : List α) (j m : Nat) (Z : List D) : List (List D) := K.map C ++ M ++ (l.drop j).map C ++ List.replicate m Z
section
variable {α : Type} {C : α → List D} {K : List α} {M : List (List D)} {l : List α} {j m : Nat} {Z : List D}
theorem dArr_len (h : K.length + M.length = j) (hj : j ≤ l.length) : (dArr C K M l j m Z).length = l.length + m := by
  simp [dArr]; omega
theorem dArr_elem (h : K.length + M.length = j) (hj : j < l.length) : elem (dArr C K M l j m Z) j = C l[j] := by
  have e : dArr C K M l j m Z = (K.map C ++ M) ++ (C l[j] :: ((l.drop (j + 1)).map C ++ List.replicate m Z)) := by
    rw [dArr, List.drop_eq_getElem_cons hj, List.map_cons]
    simp only [List.append_assoc, List.cons_append]
  have hl : (K.map C ++ M).length = j := by simpa using h
  rw [e, elem, List.getD, List.getElem?_append_right (by omega), hl]
  simp
theorem dArr_skip (hj : j < l.length) : dArr C K M l j m Z = dArr C K (M ++ [C l[j]]) l (j + 1) m Z := by
  rw [dArr, List.drop_eq_getElem_cons hj, List.map_cons, dArr]
  simp only [List.append_assoc, List.cons_append, List.nil_append]
theorem dArr_set (hj : j < l.length) (hM : 1 ≤ M.length) : (dArr C K M l j m Z).set K.length (C l[j]) = dArr C (K ++ [l[j]]) (M.drop 1 ++ [C l[j]]) l (j + 1) m Z := by
  cases M with
  | nil => simp at hM
  | cons x M =>
    have hl : (K.map C).length = K.length := by simp
    simp only [dArr, List.append_assoc]
    rw [List.set_append_right _ _ (by omega), hl, Nat.sub_self]
    rw [List.drop_eq_getElem_cons hj, List.map_cons]
    simp only [List.length_map, Nat.sub_self, List.cons_append, List.set_cons_zero, List.map_append, List.map_cons, List.map_nil, List.append_assoc, List.nil_append, List.drop_one, List.tail_cons]
theorem dArr_head {n : Nat} (hM : 1 ≤ M.length) (h : ∀ e ∈ M, e.length = n) : List.drop n (elem (dArr C K M l j m Z) K.length) = [] := by
  refine List.drop_eq_nil_of_le ?_
  cases M with
  | nil => simp at hM
  | cons x M =>
    have hl : (K.map C).length = K.length := by simp
    have e : elem (dArr C K (x :: M) l j m Z) K.length = x := by
      simp only [dArr, List.append_assoc]
      rw [elem, List.getD, List.getElem?_append_right (by omega), hl, Nat.sub_self]
      rfl
    rw [e, h x (List.mem_cons_self ..)]
    exact Nat.le_refl _
theorem dArr_over {z : List D} (h : K.length + M.length = l.length) : (over (dArr C K M l l.length m Z) K.length (List.replicate (l.length - K.length) z)).length = l.length + m := by
  rw [length_over (by rw [dArr_len h (Nat.le_refl _), List.length_replicate]; omega), dArr_len h (Nat.le_refl _)]
theorem dArr_clear {z : List D} (h : K.length + M.length = l.length) : (over (dArr C K M l l.length m Z) K.length (List.replicate (l.length - K.length) z)).take K.length = K.map C := by
  have hl : (K.map C).length = K.length := by simp
  have e : dArr C K M l l.length m Z = K.map C ++ (M ++ List.replicate m Z) := by simp [dArr]
  rw [e, over, ← hl, List.take_left, List.append_assoc, List.take_left]
theorem dArr_start {i : Nat} (hi : i < l.length) : l.map C ++ List.replicate m Z = dArr C (l.take i) [C l[i]] l (i + 1) m Z := by
  have e : l = l.take i ++ l[i] :: l.drop (i + 1) := by rw [← List.drop_eq_getElem_cons hi, List.take_append_drop]
  have e2 : l.map C = (l.take i).map C ++ [C l[i]] ++ (l.drop (i + 1)).map C := by
    conv => lhs; rw [e]
    rw [List.map_append, List.map_cons]
    simp only [List.append_assoc, List.cons_append, List.nil_append]
  rw [dArr, e2]
/-- What is kept of the first j. -/
def kept (g : α → Bool) (l : List α) (j : Nat) : List α := (l.take j).filter (fun x => !(g x))
theorem kept_succ (g : α → Bool) (hj : j < l.length) : kept g l (j + 1) = kept g l j ++ (if g l[j] then [] else [l[j]]) := by
  rw [kept, kept, List.take_succ_eq_append_getElem hj, List.filter_append]
  cases h : g l[j] <;> simp [h]
theorem kept_start (g : α → Bool) {i : Nat} (hi : i < l.length) (hg : g l[i] = true) (hb : ∀ t (ht : t < l.length), t < i → g l[t] = false) : kept g l (i + 1) = l.take i := by
  rw [kept_succ g hi, hg, if_pos rfl, List.append_nil]
  exact filter_take_all g l i hb
theorem kept_all (g : α → Bool) (l : List α) : kept g l l.length = l.filter (fun x => !(g x)) := by rw [kept, List.take_length]
end

inductive CloJ : Nat → List D → (Jb → Bool) → Prop
  | place (k : Int) : CloJ n_coord_work_place_1 [.ad 1 [[.int .i64 k]] 0 0] (fun x => decide (x.n = k))
theorem CloJ.uniq {f : Nat} {caps : List D} {g g' : Jb → Bool} (h : CloJ f caps g) (h' : CloJ f caps g') : g = g' := by
  cases h; generalize hc : [D.ad 1 _ 0 0] = c at h'
  cases h'; simp at hc; subst hc; rfl
open Classical in
noncomputable def gJ (f : Nat) (caps : List D) : Jb → Bool := if h : ∃ g, CloJ f caps g then h.choose else fun _ => false
theorem gJ_eq {f : Nat} {caps : List D} {g : Jb → Bool} (h : CloJ f caps g) : gJ f caps = g := by
  have he : ∃ g, CloJ f caps g := ⟨g, h⟩
  rw [gJ, dif_pos he]
  exact he.choose_spec.uniq h
theorem CloJ.lt {f : Nat} {caps : List D} {g : Jb → Bool} (h : CloJ f caps g) : f < 1000000 := by
  cases h <;> decide
noncomputable def sp_cloJ (f : Nat) : Sp := { pre := fun ds => ∃ x caps g, ds = .agg (jbC x) :: caps ∧ CloJ f caps g, F := fun | .agg x :: caps => .bool (gJ f caps (jbOf x)) | _ => .any }
noncomputable def sp_IndexJ : Sp := { pre := fun ds => ∃ (l : List Jb) (f : Nat) (caps : List D) (g : Jb → Bool), ds = [.fz 6 (l.map jbC), .clo f caps] ∧ CloJ f caps g ∧ l.length ≤ 100000, F := fun | [x, .clo f caps] => .int .i64 (idxOf (gJ f caps) (lsOf jbOf x)) | _ => .any }
def ClosJ (T : Tb) : Prop := ∀ f caps g, CloJ f caps g → T.sp f = some (sp_cloJ f)
theorem cloJ_F {f : Nat} {caps : List D} {g : Jb → Bool} (h : CloJ f caps g) (x : Jb) : (sp_cloJ f).F (.agg (jbC x) :: caps) = .bool (g x) := by
  have e : jbOf (jbC x) = x := jbOf_jbC x
  simp only [sp_cloJ, gJ_eq h, e]
theorem cloJ_pre {f : Nat} {caps : List D} {g : Jb → Bool} (h : CloJ f caps g) (x : Jb) : (sp_cloJ f).pre (.agg (jbC x) :: caps) = True := by
  simp only [sp_cloJ, eq_iff_iff, iff_true]; exact ⟨x, caps, g, rfl, h⟩
theorem indexJ_F {l : List Jb} {f : Nat} {caps : List D} {g} (h : CloJ f caps g) : sp_IndexJ.F [.fz 6 (l.map jbC), .clo f caps] = .int .i64 (idxOf g l) := by
  simp only [sp_IndexJ, jbs_of, gJ_eq h]
theorem indexJ_pre {l : List Jb} {f : Nat} {caps : List D} {g} (h : CloJ f caps g) (hl : l.length ≤ 100000) : sp_IndexJ.pre [.fz 6 (l.map jbC), .clo f caps] = True := by
  simp only [sp_IndexJ, eq_iff_iff, iff_true]; exact ⟨l, f, caps, g, rfl, h, hl⟩
inductive CloT : Nat → List D → (Tk → Bool) → Prop
  | writes : CloT n_coord_work_commit_1 [] (fun x => x.wr)
theorem CloT.uniq {f : Nat} {caps : List D} {g g' : Tk → Bool} (h : CloT f caps g) (h' : CloT f caps g') : g = g' := by
  cases h; cases h'; rfl
open Classical in
noncomputable def gT (f : Nat) (caps : List D) : Tk → Bool := if h : ∃ g, CloT f caps g then h.choose else fun _ => false
theorem gT_eq {f : Nat} {caps : List D} {g : Tk → Bool} (h : CloT f caps g) : gT f caps = g := by
  have he : ∃ g, CloT f caps g := ⟨g, h⟩
  rw [gT, dif_pos he]
  exact he.choose_spec.uniq h
theorem CloT.lt {f : Nat} {caps : List D} {g : Tk → Bool} (h : CloT f caps g) : f < 1000000 := by
  cases h <;> decide
noncomputable def sp_cloT (f : Nat) : Sp := { pre := fun ds => ∃ x caps g, ds = .agg (tkC x) :: caps ∧ CloT f caps g, F := fun | .agg x :: caps => .bool (gT f caps (tkOf x)) | _ => .any }
noncomputable def sp_IndexT : Sp := { pre := fun ds => ∃ (l : List Tk) (f : Nat) (caps : List D) (g : Tk → Bool), ds = [.fz 8 (l.map tkC), .clo f caps] ∧ CloT f caps g ∧ l.length ≤ 100000, F := fun | [x, .clo f caps] => .int .i64 (idxOf (gT f caps) (lsOf tkOf x)) | _ => .any }
def ClosT (T : Tb) : Prop := ∀ f caps g, CloT f caps g → T.sp f = some (sp_cloT f)
theorem cloT_F {f : Nat} {caps : List D} {g : Tk → Bool} (h : CloT f caps g) (x : Tk) : (sp_cloT f).F (.agg (tkC x) :: caps) = .bool (g x) := by
  have e : tkOf (tkC x) = x := rfl
  simp only [sp_cloT, gT_eq h, e]
theorem cloT_pre {f : Nat} {caps : List D} {g : Tk → Bool} (h : CloT f caps g) (x : Tk) : (sp_cloT f).pre (.agg (tkC x) :: caps) = True := by
  simp only [sp_cloT, eq_iff_iff, iff_true]; exact ⟨x, caps, g, rfl, h⟩
theorem indexT_F {l : List Tk} {f : Nat} {caps : List D} {g} (h : CloT f caps g) : sp_IndexT.F [.fz 8 (l.map tkC), .clo f caps] = .int .i64 (idxOf g l) := by
  simp only [sp_IndexT, tks_of, gT_eq h]
theorem indexT_pre {l : List Tk} {f : Nat} {caps : List D} {g} (h : CloT f caps g) (hl : l.length ≤ 100000) : sp_IndexT.pre [.fz 8 (l.map tkC), .clo f caps] = True := by
  simp only [sp_IndexT, eq_iff_iff, iff_true]; exact ⟨l, f, caps, g, rfl, h, hl⟩
inductive CloI : Nat → List D → (Int → Bool) → Prop
  | acked (m : Ms) : CloI n_coord_work_acked_1 [.ad 12 [msgC m] 0 0] (fun x => decide (x = m.frm))
theorem CloI.uniq {f : Nat} {caps : List D} {g g' : Int → Bool} (h : CloI f caps g) (h' : CloI f caps g') : g = g' := by
  cases h; generalize hc : [D.ad 12 _ 0 0] = c at h'
  cases h'; simp [msgC] at hc; simp [hc]
open Classical in
noncomputable def gI (f : Nat) (caps : List D) : Int → Bool := if h : ∃ g, CloI f caps g then h.choose else fun _ => false
theorem gI_eq {f : Nat} {caps : List D} {g : Int → Bool} (h : CloI f caps g) : gI f caps = g := by
  have he : ∃ g, CloI f caps g := ⟨g, h⟩
  rw [gI, dif_pos he]
  exact he.choose_spec.uniq h
theorem CloI.lt {f : Nat} {caps : List D} {g : Int → Bool} (h : CloI f caps g) : f < 1000000 := by
  cases h <;> decide
noncomputable def sp_cloI (f : Nat) : Sp := { pre := fun ds => ∃ x caps g, ds = .int .i64 x :: caps ∧ CloI f caps g, F := fun | .int _ x :: caps => .bool (gI f caps (x)) | _ => .any }
noncomputable def sp_IndexI : Sp := { pre := fun ds => ∃ (l : List Int) (f : Nat) (caps : List D) (g : Int → Bool), ds = [.fz 1 (l.map ic), .clo f caps] ∧ CloI f caps g ∧ l.length ≤ 100000, F := fun | [x, .clo f caps] => .int .i64 (idxOf (gI f caps) (lsOf intOf x)) | _ => .any }
def ClosI (T : Tb) : Prop := ∀ f caps g, CloI f caps g → T.sp f = some (sp_cloI f)
theorem cloI_F {f : Nat} {caps : List D} {g : Int → Bool} (h : CloI f caps g) (x : Int) : (sp_cloI f).F (.int .i64 x :: caps) = .bool (g x) := by
  simp only [sp_cloI, gI_eq h]
theorem cloI_pre {f : Nat} {caps : List D} {g : Int → Bool} (h : CloI f caps g) (x : Int) : (sp_cloI f).pre (.int .i64 x :: caps) = True := by
  simp only [sp_cloI, eq_iff_iff, iff_true]; exact ⟨x, caps, g, rfl, h⟩
theorem indexI_F {l : List Int} {f : Nat} {caps : List D} {g} (h : CloI f caps g) : sp_IndexI.F [.fz 1 (l.map ic), .clo f caps] = .int .i64 (idxOf g l) := by
  simp only [sp_IndexI, is_of, gI_eq h]
theorem indexI_pre {l : List Int} {f : Nat} {caps : List D} {g} (h : CloI f caps g) (hl : l.length ≤ 100000) : sp_IndexI.pre [.fz 1 (l.map ic), .clo f caps] = True := by
  simp only [sp_IndexI, eq_iff_iff, iff_true]; exact ⟨l, f, caps, g, rfl, h, hl⟩
noncomputable def hs_DelI : HSp := {
  pre := fun ds ob => ∃ (l : List Int) (f : Nat) (caps : List D) (g : Int → Bool), ds = [.row 1000000000, .clo f caps] ∧ ob = [(1000000000, .row 1 (l.map ic))] ∧ CloI f caps g ∧ l.length ≤ 10000
  F := fun ds ob => match ds, ob with
    | [_, .clo f caps], [(_, .row _ es)] => (.row 0, [(0, .row 1 (((lsOf intOf (.fz 1 es)).filter fun x => !(gI f caps x)).map ic))])
    | _, _ => (.any, []) }
noncomputable def sp_DelI : Sp := { pre := fun _ => True, F := fun _ => .any, hx := some hs_DelI }
theorem DelI_pre {l : List Int} {f : Nat} {caps : List D} {g : Int → Bool} (h : CloI f caps g) (hl : l.length ≤ 10000) : hs_DelI.pre [.row 1000000000, .clo f caps] [(1000000000, .row 1 (l.map ic))] = True := by
  simp only [hs_DelI, eq_iff_iff, iff_true]; exact ⟨l, f, caps, g, rfl, rfl, h, hl⟩
theorem DelI_F (l : List Int) {f : Nat} {caps : List D} {g : Int → Bool} (h : CloI f caps g) : hs_DelI.F [.row 1000000000, .clo f caps] [(1000000000, .row 1 (l.map ic))] = (.row 0, [(0, .row 1 ((l.filter fun x => !(g x)).map ic))]) := by
  simp only [hs_DelI, is_of, gI_eq h]

section
variable {T : Tb}
attribute [local simp] k_seq k_block k_skip k_reg k_alt k_cond k_exit k_ret kf_nil kf_seq_n kf_seq_e kf_seq_r kf_blk_n kf_blk_e kf_blk_r kf_lp_n kf_lp_e kf_lp_r kf_cut_n kf_cut_e kf_cut_r mkTm VCops VCalt istep act gd applyE wrapD Opd.ev get_mk set_mk set_mk0 tget16 tset16 tget_0 tset_0 tget_1 tset_1 tget_2 tset_2 tget_3 tset_3 tget_4 tset_4 tget_5 tset_5 tget_6 tset_6 tget_7 tset_7 tget_8 tset_8 tget_9 tset_9 tget_10 tset_10 tget_11 tset_11 tget_12 tset_12 tget_13 tset_13 tget_14 tset_14 tget_15 tset_15 D.un D.gu gus IOp.opds binD fnPost getRes IRes.get oneRes D.out outL D.clos closL D.norow norowL D.lv lvL D.scal scalL D.cells D.cell D.cell' St.lk obPut obDel List.lookup cut pickD splice fillParts fillRows elem_cons newsOf D.pl D.forget forgetL Ob.forget forgetO eqCells sg leD leDL leOb apartK St.le D.keys keysL D.rows rowsL obKeys addKeys reach pos D.ren renL Ob.ren inM outM inObs outObs goneK apartN okNames_eq okNms obNms namesOK_nil namesOK_cons freeOK_nil freeOK_cons D.frz frzL Ob.frz frzO St.frz forgetLs dropObs putObs hcall freeOf keeps baseN shD isShift shMax k_bad VCopsG frz_nil actx actc cnum vwCut St.frzT St.opnT St.clsT D.opn opnL Ob.opn opnO VCou VCcx St.oneS D.objI D.objK scrL D.scr St.opnS St.clsS D.cellS D.fzs fzsL k_mrk k_mrq IOper.gh
theorem v_place_1 : Verified T ir_coord_work_place_1 (sp_cloJ n_coord_work_place_1) := by
  refine Verified.mk ?_
  rintro ds ⟨x, caps, g, rfl, h⟩
  rw [cloJ_F h]
  generalize hf : n_coord_work_place_1 = f at h
  cases h
  obtain ⟨a1, a2, a3, a4, a5, a6⟩ := x
  simp (implicitDefEqProofs := false) [ir_coord_work_place_1, jbC]
  rfl
theorem v_commit_1 : Verified T ir_coord_work_commit_1 (sp_cloT n_coord_work_commit_1) := by
  refine Verified.mk ?_
  rintro ds ⟨x, caps, g, rfl, h⟩
  rw [cloT_F h]
  generalize hf : n_coord_work_commit_1 = f at h
  cases h
  obtain ⟨a1, a2, a3, a4, a5, a6, a7, a8⟩ := x
  simp (implicitDefEqProofs := false) [ir_coord_work_commit_1, tkC]
theorem v_acked_1 : Verified T ir_coord_work_acked_1 (sp_cloI n_coord_work_acked_1) := by
  refine Verified.mk ?_
  rintro ds ⟨x, caps, g, rfl, h⟩
  rw [cloI_F h]
  generalize hf : n_coord_work_acked_1 = f at h
  cases h
  rename_i m
  simp (implicitDefEqProofs := false) [ir_coord_work_acked_1, msgC]
  rfl
set_option maxRecDepth 100000 in
set_option maxHeartbeats 4000000 in
theorem v_IndexJ (hc : ClosJ T) : Verified T ir_slices_IndexFunc_reredos_api_Job_reredos_api_Job sp_IndexJ := by
  refine Verified.mk ?_
  rintro ds ⟨l, f, caps, g, rfl, h, hl⟩
  have hsp := hc f caps g h
  have hlt := h.lt
  have hg := gJ_eq h
  have hx : (sp_cloJ f).hx = none := rfl
  have hcn : cnum T f = f := by rw [cnum, hsp]; rfl
  simp only [sp_IndexJ, jbs_of, hg]
  have hF := fun x => cloJ_F h x
  have hP := fun x => cloJ_pre h x
  have hcl : closL caps = true := by cases h <;> rfl
  have hlv : ∀ lk, lvL lk caps = true := fun lk => by cases h <;> rfl
  have hout : ∀ lk, outL lk caps = caps := fun lk => by cases h <;> rfl
  have hfz : ∀ lk ks, frzL lk ks caps = caps := fun lk ks => by cases h <;> rfl
  simp (implicitDefEqProofs := false) [ir_slices_IndexFunc_reredos_api_Job_reredos_api_Job]
  refine k_loop (ι := {j : Nat // j ≤ l.length ∧ ∀ i (hi : i < j) (hl : i < l.length), g l[i] = false}) (fun x => ⟨mkTm 19 0 [(0, .fz 6 (l.map jbC)), (1, .clo f caps), (6, .fz 6 (l.map jbC)), (7, .int .i64 l.length), (8, .int .i64 x.1)], []⟩)
    (fun x => l.length - x.1) [] ⟨0, by omega, fun i hi => by omega⟩ (by simp (implicitDefEqProofs := false) [hcl]) ?_
  rintro ⟨j, hj, hb⟩ P hQ
  by_cases hjl : j < l.length
  · have hjl' : (j : Int) < l.length := by omega
    have hel := elem_map jbC l j hjl
    have hF' := hF l[j]
    have hP' := hP l[j]
    have hfnd : g l[j] = true → (j : Int) = idxOf g l := fun hq => (idxOf_found hjl hq fun i hi => hb i hi (by omega)).symm
    have hnx : g l[j] = false → ∀ i (hi : i < j + 1) (hl : i < l.length), g l[i] = false := fun hq i hi hl => by
      by_cases e : i = j
      · subst e; exact hq
      · exact hb i (by omega) hl
    generalize l[j] = x at hel hF' hP' hfnd hnx
    clear hF hP
    cases hgx : g x
    · rw [hgx] at hF'
      replace hnx := hnx hgx
      clear hfnd
      obtain ⟨a1, a2, a3, a4, a5, a6⟩ := x
      simp only [jbC] at hel hF' hP'
      simp (implicitDefEqProofs := false) [ir_slices_IndexFunc_reredos_api_Job_reredos_api_Job_b0, hjl', hjl, hel, hlt, hcn, hsp, hx, hF', hP', hcl, hlv, hout, hfz]
      exact ⟨by simp only [inR]; omega, hQ _ [] ⟨j + 1, by omega, hnx⟩ (by simp (implicitDefEqProofs := false) [hcl, hfz]) (by simp only; omega)⟩
    · rw [hgx] at hF'
      have hfnd2 := hfnd hgx
      clear hnx hfnd
      obtain ⟨a1, a2, a3, a4, a5, a6⟩ := x
      simp only [jbC] at hel hF' hP'
      simp (implicitDefEqProofs := false) [ir_slices_IndexFunc_reredos_api_Job_reredos_api_Job_b0, hjl', hjl, hel, hlt, hcn, hsp, hx, hF', hP', hcl, hlv, hout, hfz]
      exact hfnd2
  · have hjl' : ¬ (j : Int) < l.length := by omega
    have hn : idxOf g l = -1 := idxOf_none fun i hi => hb i (by omega) hi
    simp (implicitDefEqProofs := false) [ir_slices_IndexFunc_reredos_api_Job_reredos_api_Job_b0, ir_slices_IndexFunc_reredos_api_Job_reredos_api_Job_r1, hjl', hn]
set_option maxRecDepth 100000 in
set_option maxHeartbeats 4000000 in
theorem v_IndexT (hc : ClosT T) : Verified T ir_slices_IndexFunc_reredos_api_Task_reredos_api_Task sp_IndexT := by
  refine Verified.mk ?_
  rintro ds ⟨l, f, caps, g, rfl, h, hl⟩
  have hsp := hc f caps g h
  have hlt := h.lt
  have hg := gT_eq h
  have hx : (sp_cloT f).hx = none := rfl
  have hcn : cnum T f = f := by rw [cnum, hsp]; rfl
  simp only [sp_IndexT, tks_of, hg]
  have hF := fun x => cloT_F h x
  have hP := fun x => cloT_pre h x
  have hcl : closL caps = true := by cases h <;> rfl
  have hlv : ∀ lk, lvL lk caps = true := fun lk => by cases h <;> rfl
  have hout : ∀ lk, outL lk caps = caps := fun lk => by cases h <;> rfl
  have hfz : ∀ lk ks, frzL lk ks caps = caps := fun lk ks => by cases h <;> rfl
  simp (implicitDefEqProofs := false) [ir_slices_IndexFunc_reredos_api_Task_reredos_api_Task]
  refine k_loop (ι := {j : Nat // j ≤ l.length ∧ ∀ i (hi : i < j) (hl : i < l.length), g l[i] = false}) (fun x => ⟨mkTm 19 0 [(0, .fz 8 (l.map tkC)), (1, .clo f caps), (6, .fz 8 (l.map tkC)), (7, .int .i64 l.length), (8, .int .i64 x.1)], []⟩)
    (fun x => l.length - x.1) [] ⟨0, by omega, fun i hi => by omega⟩ (by simp (implicitDefEqProofs := false) [hcl]) ?_
  rintro ⟨j, hj, hb⟩ P hQ
  by_cases hjl : j < l.length
  · have hjl' : (j : Int) < l.length := by omega
    have hel := elem_map tkC l j hjl
    have hF' := hF l[j]
    have hP' := hP l[j]
    have hfnd : g l[j] = true → (j : Int) = idxOf g l := fun hq => (idxOf_found hjl hq fun i hi => hb i hi (by omega)).symm
    have hnx : g l[j] = false → ∀ i (hi : i < j + 1) (hl : i < l.length), g l[i] = false := fun hq i hi hl => by
      by_cases e : i = j
      · subst e; exact hq
      · exact hb i (by omega) hl
    generalize l[j] = x at hel hF' hP' hfnd hnx
    clear hF hP
    cases hgx : g x
    · rw [hgx] at hF'
      replace hnx := hnx hgx
      clear hfnd
      obtain ⟨a1, a2, a3, a4, a5, a6, a7, a8⟩ := x
      simp only [tkC] at hel hF' hP'
      simp (implicitDefEqProofs := false) [ir_slices_IndexFunc_reredos_api_Task_reredos_api_Task_b0, hjl', hjl, hel, hlt, hcn, hsp, hx, hF', hP', hcl, hlv, hout, hfz]
      exact ⟨by simp only [inR]; omega, hQ _ [] ⟨j + 1, by omega, hnx⟩ (by simp (implicitDefEqProofs := false) [hcl, hfz]) (by simp only; omega)⟩
    · rw [hgx] at hF'
      have hfnd2 := hfnd hgx
      clear hnx hfnd
      obtain ⟨a1, a2, a3, a4, a5, a6, a7, a8⟩ := x
      simp only [tkC] at hel hF' hP'
      simp (implicitDefEqProofs := false) [ir_slices_IndexFunc_reredos_api_Task_reredos_api_Task_b0, hjl', hjl, hel, hlt, hcn, hsp, hx, hF', hP', hcl, hlv, hout, hfz]
      exact hfnd2
  · have hjl' : ¬ (j : Int) < l.length := by omega
    have hn : idxOf g l = -1 := idxOf_none fun i hi => hb i (by omega) hi
    simp (implicitDefEqProofs := false) [ir_slices_IndexFunc_reredos_api_Task_reredos_api_Task_b0, ir_slices_IndexFunc_reredos_api_Task_reredos_api_Task_r1, hjl', hn]
set_option maxRecDepth 100000 in
set_option maxHeartbeats 4000000 in
theorem v_IndexI (hc : ClosI T) : Verified T ir_slices_IndexFunc_int_int sp_IndexI := by
  refine Verified.mk ?_
  rintro ds ⟨l, f, caps, g, rfl, h, hl⟩
  have hsp := hc f caps g h
  have hlt := h.lt
  have hg := gI_eq h
  have hx : (sp_cloI f).hx = none := rfl
  have hcn : cnum T f = f := by rw [cnum, hsp]; rfl
  simp only [sp_IndexI, is_of, hg]
  have hF := fun x => cloI_F h x
  have hP := fun x => cloI_pre h x
  have hcl : closL caps = true := by cases h <;> rfl
  have hlv : ∀ lk, lvL lk caps = true := fun lk => by cases h <;> rfl
  have hout : ∀ lk, outL lk caps = caps := fun lk => by cases h <;> rfl
  have hfz : ∀ lk ks, frzL lk ks caps = caps := fun lk ks => by cases h <;> rfl
  simp (implicitDefEqProofs := false) [ir_slices_IndexFunc_int_int]
  refine k_loop (ι := {j : Nat // j ≤ l.length ∧ ∀ i (hi : i < j) (hl : i < l.length), g l[i] = false}) (fun x => ⟨mkTm 19 0 [(0, .fz 1 (l.map ic)), (1, .clo f caps), (6, .fz 1 (l.map ic)), (7, .int .i64 l.length), (8, .int .i64 x.1)], []⟩)
    (fun x => l.length - x.1) [] ⟨0, by omega, fun i hi => by omega⟩ (by simp (implicitDefEqProofs := false) [hcl]) ?_
  rintro ⟨j, hj, hb⟩ P hQ
  by_cases hjl : j < l.length
  · have hjl' : (j : Int) < l.length := by omega
    have hel := elem_map ic l j hjl
    have hF' := hF l[j]
    have hP' := hP l[j]
    have hfnd : g l[j] = true → (j : Int) = idxOf g l := fun hq => (idxOf_found hjl hq fun i hi => hb i hi (by omega)).symm
    have hnx : g l[j] = false → ∀ i (hi : i < j + 1) (hl : i < l.length), g l[i] = false := fun hq i hi hl => by
      by_cases e : i = j
      · subst e; exact hq
      · exact hb i (by omega) hl
    generalize l[j] = x at hel hF' hP' hfnd hnx
    clear hF hP
    cases hgx : g x
    · rw [hgx] at hF'
      replace hnx := hnx hgx
      clear hfnd
      simp only [ic] at hel hF' hP'
      simp (implicitDefEqProofs := false) [ir_slices_IndexFunc_int_int_b0, hjl', hjl, hel, hlt, hcn, hsp, hx, hF', hP', hcl, hlv, hout, hfz]
      exact ⟨by simp only [inR]; omega, hQ _ [] ⟨j + 1, by omega, hnx⟩ (by simp (implicitDefEqProofs := false) [hcl, hfz]) (by simp only; omega)⟩
    · rw [hgx] at hF'
      have hfnd2 := hfnd hgx
      clear hnx hfnd
      simp only [ic] at hel hF' hP'
      simp (implicitDefEqProofs := false) [ir_slices_IndexFunc_int_int_b0, hjl', hjl, hel, hlt, hcn, hsp, hx, hF', hP', hcl, hlv, hout, hfz]
      exact hfnd2
  · have hjl' : ¬ (j : Int) < l.length := by omega
    have hn : idxOf g l = -1 := idxOf_none fun i hi => hb i (by omega) hi
    simp (implicitDefEqProofs := false) [ir_slices_IndexFunc_int_int_b0, ir_slices_IndexFunc_int_int_r1, hjl', hn]
set_option maxRecDepth 100000 in
set_option maxHeartbeats 8000000 in
theorem v_DelI (hc : ClosI T) (h1 : T.sp n_slices_IndexFunc_int_int = some sp_IndexI) : Verified T ir_slices_DeleteFunc_int_int sp_DelI := by
  refine Verified.mkx rfl ?_
  rintro ds ob ⟨l, f, caps, g, rfl, rfl, h, hl⟩ R hR
  rw [DelI_F l h] at hR
  have hsp := hc f caps g h
  have hlt := h.lt
  have hx : (sp_cloI f).hx = none := rfl
  have hx1 : sp_IndexI.hx = none := rfl
  have hcn : cnum T f = f := by rw [cnum, hsp]; rfl
  have hcF := fun x => cloI_F h x
  have hcP := fun x => cloI_pre h x
  have hcl : closL caps = true := by cases h <;> rfl
  have hlv : ∀ lk, lvL lk caps = true := fun lk => by cases h <;> rfl
  have hout : ∀ lk, outL lk caps = caps := fun lk => by cases h <;> rfl
  have hfz : ∀ lk ks, frzL lk ks caps = caps := fun lk ks => by cases h <;> rfl
  have hnr : norowL caps = true := by cases h <;> rfl
  have hop : ∀ k sz n cp, opnL k sz n cp caps = caps := fun k sz n cp => by cases h <;> rfl
  have hrw : rowsL caps = [] := by cases h <;> rfl
  have hfg : ∀ k, forgetL k caps = caps := fun k => by cases h <;> rfl
  have iF := indexI_F (l := l) h
  have iP := indexI_pre (l := l) h (by omega)
  rcases idxOf_spec g l with ⟨hi, hall⟩ | ⟨i, hil, hi, hgi, hbef⟩
  · rw [hi] at iF
    have hfl : l.filter (fun x => !(g x)) = l := List.filter_eq_self.2 fun x hx => by
      obtain ⟨t, ht, rfl⟩ := List.getElem_of_mem hx
      simp [hall t ht]
    rw [hfl] at hR
    simp (implicitDefEqProofs := false) (maxSteps := 10000000) [ir_slices_DeleteFunc_int_int, h1, hx1, iF, iP, hcl, hlv, hout, hnr]
    exact hR _ [(0, some 1000000000)] (by simp (implicitDefEqProofs := false) (maxSteps := 10000000))
  · rw [hi] at iF
    have hin : ¬ ((i : Int) = -1) := by omega
    have hne : l.map ic ≠ [] := by
      intro he
      rw [List.map_eq_nil_iff] at he
      subst he
      simp at hil
    simp (implicitDefEqProofs := false) (maxSteps := 10000000) [ir_slices_DeleteFunc_int_int, h1, hx1, iF, iP, hcl, hlv, hout, hnr, hin, hne, hop]
    intro m hm
    refine ⟨by simp only [inR]; omega, ?_⟩
    rw [dArr_start (C := ic) hil]
    have hK0 := kept_start g hil hgi hbef
    have hK0l : (l.take i).length = i := by simp; omega
    refine k_loop (ι := {x : List (List D) × Nat // x.2 ≤ l.length ∧ (kept g l x.2).length + x.1.length = x.2 ∧ 1 ≤ x.1.length ∧ ∀ e ∈ x.1, e.length = 1}) (fun x => ⟨mkTm 42 0 [(0, .vw 1000000000 1 0 l.length (l.length + m)), (1, .clo f caps), (5, .int .i64 (kept g l x.1.2).length), (6, .int .i64 x.1.2)], [(1000000000, .arr 1 (dArr ic (kept g l x.1.2) x.1.1 l x.1.2 m [D.any]))]⟩)
      (fun x => l.length - x.1.2) [] ⟨([ic l[i]], i + 1), by simp only; omega, by simp only [hK0, hK0l, List.length_singleton], by simp, by simp [ic]⟩ (by simp (implicitDefEqProofs := false) (maxSteps := 10000000) [hcl, hK0, hK0l]) ?_
    rintro ⟨⟨M, j⟩, hj, hKM, hM, hMe⟩ P hQ
    simp only at hj hKM hM hMe
    have hlen := dArr_len (C := ic) (m := m) (Z := [D.any]) hKM hj
    by_cases hjl : j < l.length
    · have hjl' : (j : Int) < l.length := by omega
      have hel := dArr_elem (C := ic) (m := m) (Z := [D.any]) hKM hjl
      have hst := dArr_set (C := ic) (K := kept g l j) (m := m) (Z := [D.any]) hjl hM
      have hsk := dArr_skip (C := ic) (K := kept g l j) (M := M) (m := m) (Z := [D.any]) hjl
      have hhd := dArr_head (C := ic) (K := kept g l j) (l := l) (j := j) (m := m) (Z := [D.any]) hM hMe
      have hkn := kept_succ g hjl
      have hF' := hcF l[j]
      have hP' := hcP l[j]
      have hkj : (kept g l j).length < l.length + m := by omega
      generalize l[j] = x at hel hst hsk hkn hF' hP'
      clear hcF hcP
      cases hgx : g x
      · rw [hgx] at hF' hkn
        simp only [Bool.false_eq_true, if_false] at hkn
        simp only [ic] at hel hF' hP' hst
        simp (implicitDefEqProofs := false) (maxSteps := 10000000) [ir_slices_DeleteFunc_int_int_b0, hjl', hjl, hel, hlen, hlt, hcn, hsp, hx, hF', hP', hcl, hlv, hout, hfz, hfg, hnr, hrw, hop, hkj, hhd]
        exact ⟨by omega, by omega, by simp only [inR]; omega, by simp only [inR]; omega, hQ _ [] ⟨(M.drop 1 ++ [ic x], j + 1), by simp only; omega, by simp only [hkn, List.length_append, List.length_drop, List.length_singleton]; omega, by simp, by simp only; intro e he; rcases List.mem_append.1 he with he | he; exact hMe e (List.mem_of_mem_drop he); rw [List.mem_singleton.1 he]; rfl⟩ (by simp (implicitDefEqProofs := false) (maxSteps := 10000000) [hcl, hkn, hst, hfz, hfg, hrw, ic]) (by simp only; omega)⟩
      · rw [hgx] at hF' hkn
        simp only [if_true, List.append_nil] at hkn
        simp only [ic] at hel hF' hP' hsk
        simp (implicitDefEqProofs := false) (maxSteps := 10000000) [ir_slices_DeleteFunc_int_int_b0, hjl', hjl, hel, hlen, hlt, hcn, hsp, hx, hF', hP', hcl, hlv, hout, hfz, hfg, hnr, hrw, hop]
        exact ⟨by omega, by simp only [inR]; omega, hQ _ [] ⟨(M ++ [ic x], j + 1), by simp only; omega, by simp only [hkn, List.length_append, List.length_singleton]; omega, by simp, by simp only; intro e he; rcases List.mem_append.1 he with he | he; exact hMe e he; rw [List.mem_singleton.1 he]; rfl⟩ (by simp (implicitDefEqProofs := false) (maxSteps := 10000000) [hcl, hkn, hsk, hfz, hfg, hrw, ic]) (by simp only; omega)⟩
    · obtain rfl : j = l.length := by omega
      have hov := fun z => dArr_over (C := ic) (K := kept g l l.length) (M := M) (l := l) (m := m) (Z := [D.any]) (z := z) hKM
      have hclr := fun z => dArr_clear (C := ic) (K := kept g l l.length) (M := M) (l := l) (m := m) (Z := [D.any]) (z := z) hKM
      simp (implicitDefEqProofs := false) (maxSteps := 10000000) [ir_slices_DeleteFunc_int_int_b0, ir_slices_DeleteFunc_int_int_r1, hlen, hclr, hov]
      refine ⟨by omega, by omega, by omega, ⟨by omega, ?_⟩, hR _ [(0, some 41)] ?_⟩
      · intro x hx c hc
        simp only [ic, List.mem_cons, List.mem_nil_iff, or_false] at hc
        subst hc; rfl
      · simp (implicitDefEqProofs := false) (maxSteps := 10000000) [kept_all]
end
end Go.Proofs.YtchbnpjegacobaaDoor
