/-
  Turns at a coordinator: the place of a job; copies; a turn is begun. Conditions: those of each specification's 'pre', and that the functions that are called are what theirs say. (Printed by program.)
-/
import Derived.Test.YtchbnpjegacobaaDoorCoD
set_option linter.unusedVariables false
set_option linter.unusedSimpArgs false
namespace Go.Proofs.YtchbnpjegacobaaDoor
open Go Go.Vcg

def jbSOf : List D → Jb
  | [.int _ n, .int _ s, .sub _ t, .sub _ a, .int _ g, .int _ q] => ⟨n, s, t.map tkOf, a.map intOf, g, q⟩
  | _ => jb0
theorem tkL_map (l : List Tk) : (l.map tkC).map tkOf = l := by
  rw [List.map_map]
  have : tkOf ∘ tkC = id := rfl
  rw [this, List.map_id]
theorem icL_map (l : List Int) : (l.map ic).map intOf = l := by
  rw [List.map_map]
  have : intOf ∘ ic = id := rfl
  rw [this, List.map_id]
theorem jbSOf_jbS (j : Jb) : jbSOf (jbS j) = j := by
  obtain ⟨a, b, c, d, e, f⟩ := j
  simp only [jbSOf, jbS, tkL_map, icL_map]
theorem jbsS_of (l : List Jb) : (l.map jbS).map jbSOf = l := by
  rw [List.map_map]
  have : jbSOf ∘ jbS = id := funext jbSOf_jbS
  rw [this, List.map_id]
/-- Where a job stands; -1: nowhere. -/
def placeJ (l : List Jb) (k : Int) : Int := idxOf (fun x => decide (x.n = k)) l
def hs_place : HSp := {
  pre := fun ds ob => ∃ (k : Int) (h : Hd) (next su co : Int) (js : List Jb) (ms rs rp : List (List D)), ds = [.own 1000000000 0, .int .i64 k] ∧ ob = w5 h next su co (.rws 6 (js.map jbS)) ms rs rp [] ∧ js.length ≤ 100000
  F := fun ds ob => match ds, ob with
    | [_, .int _ k], (_, b) :: (_, .rws _ es) :: X => (.int .i64 (placeJ (es.map jbSOf) k), (1000000000, b) :: (1000000001, .rws 6 es) :: X)
    | _, _ => (.any, []) }
def sp_place : Sp := { pre := fun _ => True, F := fun _ => .any, hx := some hs_place }
theorem place_F (k : Int) (h : Hd) (next su co : Int) (js : List Jb) (ms rs rp : List (List D)) : hs_place.F [.own 1000000000 0, .int .i64 k] (w5 h next su co (.rws 6 (js.map jbS)) ms rs rp []) = (.int .i64 (placeJ js k), w5 h next su co (.rws 6 (js.map jbS)) ms rs rp []) := by
  simp only [hs_place, w5, jbsS_of]
theorem place_pre (k : Int) (h : Hd) (next su co : Int) {js : List Jb} (ms rs rp : List (List D)) (hl : js.length ≤ 100000) : hs_place.pre [.own 1000000000 0, .int .i64 k] (w5 h next su co (.rws 6 (js.map jbS)) ms rs rp []) = True := by
  simp only [hs_place, eq_iff_iff, iff_true]; exact ⟨k, h, next, su, co, js, ms, rs, rp, rfl, rfl, hl⟩

def sp_IdxI : Sp := { pre := fun ds => ∃ (l : List Int) (v : Int), ds = [.fz 1 (l.map ic), .int .i64 v] ∧ l.length ≤ 100000, F := fun | [x, .int _ v] => .int .i64 (idxOf (fun u : Int => decide (u = v)) (lsOf intOf x)) | _ => .any }
def sp_HasI : Sp := { pre := fun ds => ∃ (l : List Int) (v : Int), ds = [.fz 1 (l.map ic), .int .i64 v] ∧ l.length ≤ 100000, F := fun | [x, .int _ v] => .bool (decide (v ∈ lsOf intOf x)) | _ => .any }
theorem idxI_F (l : List Int) (v : Int) : sp_IdxI.F [.fz 1 (l.map ic), .int .i64 v] = .int .i64 (idxOf (fun u : Int => decide (u = v)) l) := by simp only [sp_IdxI, is_of]
theorem idxI_pre {l : List Int} (v : Int) (h : l.length ≤ 100000) : sp_IdxI.pre [.fz 1 (l.map ic), .int .i64 v] = True := by
  simp only [sp_IdxI, eq_iff_iff, iff_true]; exact ⟨l, v, rfl, h⟩
theorem hasI_F (l : List Int) (v : Int) : sp_HasI.F [.fz 1 (l.map ic), .int .i64 v] = .bool (decide (v ∈ l)) := by simp only [sp_HasI, is_of]
theorem hasI_pre {l : List Int} (v : Int) (h : l.length ≤ 100000) : sp_HasI.pre [.fz 1 (l.map ic), .int .i64 v] = True := by
  simp only [sp_HasI, eq_iff_iff, iff_true]; exact ⟨l, v, rfl, h⟩
def sp_SomeT : Sp := { pre := fun ds => ∃ (l : List Tk), ds = [.fz 8 (l.map tkC), .clo n_coord_work_commit_1 []] ∧ l.length ≤ 100000, F := fun | [x, _] => .bool ((lsOf tkOf x).any fun t => t.wr) | _ => .any }
theorem someT_F (l : List Tk) (c : D) : sp_SomeT.F [.fz 8 (l.map tkC), c] = .bool (l.any fun t => t.wr) := by simp only [sp_SomeT, tks_of]
theorem someT_pre {l : List Tk} (h : l.length ≤ 100000) : sp_SomeT.pre [.fz 8 (l.map tkC), .clo n_coord_work_commit_1 []] = True := by
  simp only [sp_SomeT, eq_iff_iff, iff_true]; exact ⟨l, rfl, h⟩

def hs_Cln (sz : Nat) : HSp := {
  pre := fun ds ob => ∃ es, ds = [.fz sz es] ∧ ob = [] ∧ es.length ≤ 100000
  F := fun ds _ => match ds with
    | [.fz _ es] => (.row 0, [(0, .row sz es)])
    | _ => (.any, []) }
def sp_Cln (sz : Nat) : Sp := { pre := fun _ => True, F := fun _ => .any, hx := some (hs_Cln sz) }
theorem Cln_pre {sz : Nat} {es : List (List D)} (h : es.length ≤ 100000) : (hs_Cln sz).pre [.fz sz es] [] = True := by
  simp only [hs_Cln, eq_iff_iff, iff_true]; exact ⟨es, rfl, trivial, h⟩
theorem Cln_F (sz : Nat) (es : List (List D)) : (hs_Cln sz).F [.fz sz es] [] = (.row 0, [(0, .row sz es)]) := rfl
def hs_ClnI : HSp := {
  pre := fun ds ob => ∃ es, es.length ≤ 100000 ∧ ((ds = [.fz 1 es] ∧ ob = []) ∨ (∃ l : List Int, es = l.map ic ∧ ds = [.row 1000000000] ∧ ob = [(1000000000, .row 1 es)]))
  F := fun ds ob => match ds, ob with
    | [.fz _ es], _ => (.row 0, [(0, .row 1 es)])
    | [.row _], [(_, .row _ es)] => (.row 0, [(1000000000, .row 1 es), (0, .row 1 es)])
    | _, _ => (.any, []) }
def sp_ClnI : Sp := { pre := fun _ => True, F := fun _ => .any, hx := some hs_ClnI }
theorem ClnI_pre {es : List (List D)} (h : es.length ≤ 100000) : hs_ClnI.pre [.fz 1 es] [] = True := by
  simp only [hs_ClnI, eq_iff_iff, iff_true]; exact ⟨es, h, .inl ⟨rfl, trivial⟩⟩
theorem ClnI_F (es : List (List D)) : hs_ClnI.F [.fz 1 es] [] = (.row 0, [(0, .row 1 es)]) := rfl
theorem ClnR_pre {l : List Int} (h : l.length ≤ 100000) : hs_ClnI.pre [.row 1000000000] [(1000000000, .row 1 (l.map ic))] = True := by
  simp only [hs_ClnI, eq_iff_iff, iff_true]; exact ⟨_, by simpa using h, .inr ⟨l, rfl, trivial, rfl⟩⟩
theorem ClnR_F (es : List (List D)) : hs_ClnI.F [.row 1000000000] [(1000000000, .row 1 es)] = (.row 0, [(1000000000, .row 1 es), (0, .row 1 es)]) := rfl

def fewJ (j : Jb) : Prop := j.tasks.length ≤ 10000 ∧ j.asked.length ≤ 10000
def hs_own : HSp := {
  pre := fun ds ob => ∃ (next : Int) (l : List Jb), ds = [.agg (dkC next l)] ∧ ob = [] ∧ l.length ≤ 10000 ∧ ∀ j ∈ l, fewJ j
  F := fun ds _ => match ds with
    | [.agg [n, js]] => (.agg [n, .row 0], [(0, .rws 6 ((lsOf jbOf js).map jbS))])
    | _ => (.any, []) }
def sp_own : Sp := { pre := fun _ => True, F := fun _ => .any, hx := some hs_own }
theorem own_F (next : Int) (l : List Jb) : hs_own.F [.agg (dkC next l)] [] = (.agg [.int .i64 next, .row 0], [(0, .rws 6 (l.map jbS))]) := by
  simp only [hs_own, dkC, jbs_of]
theorem own_pre (next : Int) {l : List Jb} (h : l.length ≤ 10000) (h1 : ∀ j ∈ l, fewJ j) : hs_own.pre [.agg (dkC next l)] [] = True := by
  simp only [hs_own, eq_iff_iff, iff_true]; exact ⟨next, l, rfl, trivial, h, h1⟩

/-- Why a turn may not be begun. -/
noncomputable def begE (h : Hd) (next : Int) (l : List Jb) : Int :=
  if chkD h.S h.ls h.P next l ≠ 0 then chkD h.S h.ls h.P next l else if h.l < 0 ∨ (h.ls.length : Int) ≤ h.l then 6 else if h.me < 0 ∨ h.S ≤ h.me then 2 else 0
noncomputable def hs_begin : HSp := {
  pre := fun ds ob => ∃ (h : Hd) (next : Int) (l : List Jb), ds = [cfgD h.S h.ls h.P, .int .i64 h.l, .int .i64 h.me, .agg (dkC next l)] ∧ ob = [] ∧ l.length ≤ 10000 ∧ ∀ j ∈ l, fewJ j
  F := fun ds _ => match ds with
    | [x, .int _ b, .int _ me, .agg [.int _ n, js]] =>
      if begE ⟨(cfgOf x).1, (cfgOf x).2.1, (cfgOf x).2.2, b, me⟩ n (lsOf jbOf js) = 0 then (.tup [.own 0 0, .int .i64 0], [(0, wb ⟨(cfgOf x).1, (cfgOf x).2.1, (cfgOf x).2.2, b, me⟩ n 1 2 3 4 0 0), (1, .rws 6 ((lsOf jbOf js).map jbS)), (2, .row 12 []), (3, .row 8 []), (4, .row 6 [])])
      else (.tup [.nilp, .int .i64 (begE ⟨(cfgOf x).1, (cfgOf x).2.1, (cfgOf x).2.2, b, me⟩ n (lsOf jbOf js))], [])
    | _ => (.any, []) }
noncomputable def sp_begin : Sp := { pre := fun _ => True, F := fun _ => .any, hx := some hs_begin }
theorem begin_F0 {h : Hd} {next : Int} {l : List Jb} (h0 : begE h next l = 0) : hs_begin.F [cfgD h.S h.ls h.P, .int .i64 h.l, .int .i64 h.me, .agg (dkC next l)] [] = (.tup [.own 0 0, .int .i64 0], [(0, wb h next 1 2 3 4 0 0), (1, .rws 6 (l.map jbS)), (2, .row 12 []), (3, .row 8 []), (4, .row 6 [])]) := by
  simp only [hs_begin, dkC, cfgOf_cfgD, jbs_of, h0, if_true]
theorem begin_F1 {h : Hd} {next : Int} {l : List Jb} (h0 : begE h next l ≠ 0) : hs_begin.F [cfgD h.S h.ls h.P, .int .i64 h.l, .int .i64 h.me, .agg (dkC next l)] [] = (.tup [.nilp, .int .i64 (begE h next l)], []) := by
  simp only [hs_begin, dkC, cfgOf_cfgD, jbs_of, if_neg h0]
theorem begin_pre (h : Hd) (next : Int) {l : List Jb} (h1 : l.length ≤ 10000) (h2 : ∀ j ∈ l, fewJ j) : hs_begin.pre [cfgD h.S h.ls h.P, .int .i64 h.l, .int .i64 h.me, .agg (dkC next l)] [] = True := by
  simp only [hs_begin, eq_iff_iff, iff_true]; exact ⟨h, next, l, rfl, trivial, h1, h2⟩

section
variable {T : Tb}
attribute [local simp] k_seq k_block k_skip k_reg k_alt k_cond k_exit k_ret kf_nil kf_seq_n kf_seq_e kf_seq_r kf_blk_n kf_blk_e kf_blk_r kf_lp_n kf_lp_e kf_lp_r kf_cut_n kf_cut_e kf_cut_r mkTm VCops VCalt istep act gd applyE wrapD Opd.ev get_mk set_mk set_mk0 tget16 tset16 tget_0 tset_0 tget_1 tset_1 tget_2 tset_2 tget_3 tset_3 tget_4 tset_4 tget_5 tset_5 tget_6 tset_6 tget_7 tset_7 tget_8 tset_8 tget_9 tset_9 tget_10 tset_10 tget_11 tset_11 tget_12 tset_12 tget_13 tset_13 tget_14 tset_14 tget_15 tset_15 D.un D.gu gus IOp.opds binD fnPost getRes IRes.get oneRes D.out outL D.clos closL D.norow norowL D.lv lvL D.scal scalL D.cells D.cell D.cell' St.lk obPut obDel List.lookup cut pickD splice fillParts fillRows elem_cons newsOf D.pl D.forget forgetL Ob.forget forgetO eqCells sg leD leDL leOb apartK St.le D.keys keysL D.rows rowsL obKeys addKeys reach pos D.ren renL Ob.ren inM outM inObs outObs goneK apartN okNames_eq okNms obNms namesOK_nil namesOK_cons freeOK_nil freeOK_cons D.frz frzL Ob.frz frzO St.frz forgetLs dropObs putObs hcall freeOf keeps baseN shD isShift shMax k_bad VCopsG frz_nil actx actc cnum vwCut St.frzT St.opnT St.clsT D.opn opnL Ob.opn opnO VCou VCcx St.oneS D.objI D.objK scrL D.scr St.opnS St.clsS D.cellS D.fzs fzsL k_mrk k_mrq IOper.gh
set_option maxRecDepth 100000 in
set_option maxHeartbeats 8000000 in
theorem v_place (hc : ClosJ T) (h1 : T.sp n_slices_IndexFunc_reredos_api_Job_reredos_api_Job = some sp_IndexJ) : Verified T ir_coord_work_place sp_place := by
  refine Verified.mkx rfl ?_
  rintro ds ob ⟨k, h, next, su, co, js, ms, rs, rp, rfl, rfl, hl⟩ R hR
  rw [place_F] at hR
  have x1 : sp_IndexJ.hx = none := rfl
  have f1 := indexJ_F (l := js) (.place k)
  have p1 := indexJ_pre (l := js) (.place k) hl
  simp only [n_coord_work_place_1] at f1 p1
  have ho := outE_jbS js
  simp only [wb, w5] at hR ⊢
  simp (implicitDefEqProofs := false) (maxSteps := 10000000) [ir_coord_work_place, h1, x1, f1, p1, ho]
  exact hR _ [] (by simp (implicitDefEqProofs := false) (maxSteps := 10000000) [placeJ])
set_option maxRecDepth 100000 in
theorem v_IdxI : Verified T ir_slices_Index_int_int sp_IdxI := by
  refine Verified.mk ?_
  rintro ds ⟨l, v, rfl, hl⟩
  rw [idxI_F]
  simp (implicitDefEqProofs := false) [ir_slices_Index_int_int]
  refine k_loop (ι := {j : Nat // j ≤ l.length ∧ ∀ i (hi : i < j) (hl : i < l.length), decide (l[i] = v) = false}) (fun x => ⟨mkTm 19 0 [(0, .fz 1 (l.map ic)), (1, .int .i64 v), (6, .fz 1 (l.map ic)), (7, .int .i64 l.length), (8, .int .i64 x.1)], []⟩)
    (fun x => l.length - x.1) [] ⟨0, by omega, fun i hi => by omega⟩ (by simp (implicitDefEqProofs := false)) ?_
  rintro ⟨j, hj, hb⟩ P hQ
  by_cases hjl : j < l.length
  · have hjl' : (j : Int) < l.length := by omega
    have hel := elem_map ic l j hjl
    have hfnd : l[j] = v → (j : Int) = idxOf (fun u : Int => decide (u = v)) l := fun hq => (idxOf_found (g := fun u : Int => decide (u = v)) hjl (by simpa using hq) fun i hi => hb i hi (by omega)).symm
    have hnx : l[j] ≠ v → ∀ i (hi : i < j + 1) (hl : i < l.length), decide (l[i] = v) = false := fun hq i hi hl => by
      by_cases e : i = j
      · subst e; simpa using hq
      · exact hb i (by omega) hl
    generalize l[j] = x at hel hfnd hnx
    simp only [ic] at hel
    by_cases he : x = v
    · subst he
      have hfnd2 := hfnd rfl
      simp (implicitDefEqProofs := false) [ir_slices_Index_int_int_b0, hjl', hjl, hel]
      exact hfnd2
    · have hn := hnx he
      have he' : ¬ v = x := fun h => he h.symm
      simp (implicitDefEqProofs := false) [ir_slices_Index_int_int_b0, hjl', hjl, hel, he']
      exact ⟨by simp only [inR]; omega, hQ _ [] ⟨j + 1, by omega, hn⟩ (by simp (implicitDefEqProofs := false)) (by simp only; omega)⟩
  · have hjl' : ¬ (j : Int) < l.length := by omega
    have hn : idxOf (fun u : Int => decide (u = v)) l = -1 := idxOf_none fun i hi => hb i (by omega) hi
    simp (implicitDefEqProofs := false) [ir_slices_Index_int_int_b0, ir_slices_Index_int_int_r1, hjl', hn]
theorem v_HasI (h1 : T.sp n_slices_Index_int_int = some sp_IdxI) : Verified T ir_slices_Contains_int_int sp_HasI := by
  refine Verified.mk ?_
  rintro ds ⟨l, v, rfl, hl⟩
  rw [hasI_F]
  have x1 : sp_IdxI.hx = none := rfl
  have f1 := idxI_F l v
  have p1 := idxI_pre v hl
  have hg := idxOf_ge (fun u : Int => decide (u = v)) l
  have ha : l.any (fun u : Int => decide (u = v)) = decide (v ∈ l) := by
    rw [Bool.eq_iff_iff]; simp
  rw [ha] at hg
  simp only [ge_iff_le] at hg
  simp (implicitDefEqProofs := false) [ir_slices_Contains_int_int, h1, x1, f1, p1, hg]
theorem v_SomeT (h1 : T.sp n_slices_IndexFunc_reredos_api_Task_reredos_api_Task = some sp_IndexT) : Verified T ir_slices_ContainsFunc_reredos_api_Task_reredos_api_Task sp_SomeT := by
  refine Verified.mk ?_
  rintro ds ⟨l, rfl, hl⟩
  rw [someT_F]
  have x1 : sp_IndexT.hx = none := rfl
  have f1 := indexT_F (l := l) .writes
  have p1 := indexT_pre (l := l) .writes hl
  have hg := idxOf_ge (fun t : Tk => t.wr) l
  simp only [ge_iff_le] at hg
  simp (implicitDefEqProofs := false) [ir_slices_ContainsFunc_reredos_api_Task_reredos_api_Task, h1, x1, f1, p1, hg]
theorem v_ClnT : Verified T ir_slices_Clone_reredos_api_Task_reredos_api_Task (sp_Cln 8) := by
  refine Verified.mkx rfl ?_
  rintro ds ob ⟨es, rfl, rfl, h⟩ R hR
  rw [Cln_F] at hR
  cases es with
  | nil =>
    simp (implicitDefEqProofs := false) [ir_slices_Clone_reredos_api_Task_reredos_api_Task]
    exact ⟨hR _ [(0, none)] (by simp (implicitDefEqProofs := false)), hR _ [(0, some 7)] (by simp (implicitDefEqProofs := false))⟩
  | cons e es =>
    simp only [List.length_cons] at h
    simp (implicitDefEqProofs := false) [ir_slices_Clone_reredos_api_Task_reredos_api_Task]
    exact ⟨⟨by omega, by omega⟩, hR _ [(0, some 7)] (by simp (implicitDefEqProofs := false))⟩
theorem v_ClnI : Verified T ir_slices_Clone_int_int sp_ClnI := by
  refine Verified.mkx rfl ?_
  rintro ds ob ⟨es, h, ⟨rfl, rfl⟩ | ⟨l, he, rfl, rfl⟩⟩ R hR
  · rw [ClnI_F] at hR
    cases es with
    | nil =>
      simp (implicitDefEqProofs := false) [ir_slices_Clone_int_int]
      exact ⟨hR _ [(0, none)] (by simp (implicitDefEqProofs := false)), hR _ [(0, some 7)] (by simp (implicitDefEqProofs := false))⟩
    | cons e es =>
      simp only [List.length_cons] at h
      simp (implicitDefEqProofs := false) [ir_slices_Clone_int_int]
      exact ⟨⟨by omega, by omega⟩, hR _ [(0, some 7)] (by simp (implicitDefEqProofs := false))⟩
  · rw [ClnR_F] at hR
    cases es with
    | nil =>
      simp (implicitDefEqProofs := false) [ir_slices_Clone_int_int]
      exact ⟨hR _ [(0, none)] (by simp (implicitDefEqProofs := false)), hR _ [(0, some 7)] (by simp (implicitDefEqProofs := false))⟩
    | cons e es =>
      simp only [List.length_cons] at h
      simp (implicitDefEqProofs := false) [ir_slices_Clone_int_int]
      exact ⟨⟨by omega, by omega⟩, hR _ [(0, some 7)] (by simp (implicitDefEqProofs := false))⟩
set_option maxRecDepth 100000 in
set_option maxHeartbeats 8000000 in
theorem v_own (h1 : T.sp n_slices_Clone_reredos_api_Task_reredos_api_Task = some (sp_Cln 8)) (h2 : T.sp n_slices_Clone_int_int = some sp_ClnI) : Verified T ir_coord_own sp_own := by
  refine Verified.mkx rfl ?_
  rintro ds ob ⟨next, l, rfl, rfl, hl, hq⟩ R hR
  rw [own_F] at hR
  have x1 : ∀ k, (sp_Cln k).hx = some (hs_Cln k) := fun _ => rfl
  have x2 : sp_ClnI.hx = some hs_ClnI := rfl
  simp (implicitDefEqProofs := false) [ir_coord_own, dkC]
  refine k_loop (ι := {i : Nat // i ≤ l.length}) (fun x => ⟨mkTm 32 0 [(1, .own 1 0), (2, .own 2 0), (3, .own 3 0), (10, .fz 6 (l.map jbC)), (11, .int .i64 l.length), (12, .int .i64 x.1)], [(1, .box [.int .i64 next, .fz 6 (l.map jbC)]), (2, .box [.int .i64 0, .nl 6]), (3, .box [.int .i64 next, .row 100]), (100, .rws 6 ((l.take x.1).map jbS))]⟩)
    (fun x => l.length - x.1) [(100, none)] ⟨0, by omega⟩ (by simp) ?_
  rintro ⟨i, hi⟩ P hP
  rcases Nat.lt_or_ge i l.length with h | h
  · have hi1 : (i : Int) < l.length := by omega
    have hel := elem_map jbC l i h
    obtain ⟨hq1, hq2⟩ := hq l[i] (List.getElem_mem h)
    have p1 := Cln_pre (sz := 8) (es := l[i].tasks.map tkC) (by simp; omega)
    have p2 := ClnI_pre (es := l[i].asked.map ic) (by simp; omega)
    have ht : l.take (i + 1) = l.take i ++ [l[i]] := (List.take_append_getElem h).symm
    have htl : (l.take i).length = i := by rw [List.length_take]; omega
    have hinv : List.take (i + 1) (l.map jbS) = List.take i (l.map jbS) ++ [jbS l[i]] := by rw [← List.map_take, ← List.map_take, ht]; simp only [List.map_append, List.map_cons, List.map_nil]
    generalize l[i] = j at *
    obtain ⟨a1, a2, a3, a4, a5, a6⟩ := j
    simp only [jbC, jbS] at hel hinv p1 p2
    simp (implicitDefEqProofs := false) (maxSteps := 10000000) [ir_coord_own_b0, hi1, h, hel, h1, x1, p1, Cln_F, h2, x2, p2, ClnI_F]
    exact ⟨by omega, by simp only [inR]; omega, hP _ [(100, some 28)] ⟨i + 1, by omega⟩ (by simp (implicitDefEqProofs := false) [hinv]) (by simp only; omega)⟩
  · have hi1 : ¬ (i : Int) < l.length := by omega
    obtain rfl : i = l.length := by omega
    simp (implicitDefEqProofs := false) [ir_coord_own_b0, ir_coord_own_r1, hi1]
    exact hR _ [(0, some 100)] (by simp (implicitDefEqProofs := false))
set_option maxRecDepth 100000 in
set_option maxHeartbeats 8000000 in
theorem v_begin (h1 : T.sp n_coord_Check = some sp_CCheck) (h2 : T.sp n_coord_own = some sp_own) : Verified T ir_coord_begin sp_begin := by
  refine Verified.mkx rfl ?_
  rintro ds ob ⟨h, next, l, rfl, rfl, hl, hq⟩ R hR
  have x1 : sp_CCheck.hx = none := rfl
  have x2 : sp_own.hx = some hs_own := rfl
  have f1 := ccheck_F h.S h.ls h.P next l
  have p1 := ccheck_pre h.S h.ls h.P next (l := l) (by omega) (fun j hj => ⟨by have := (hq j hj).1; omega, by have := (hq j hj).2; omega⟩)
  have f2 := own_F next l
  have p2 := own_pre next hl hq
  have hc : begE h next l = 0 ∨ begE h next l ≠ 0 := by omega
  simp only [dkC, cfgD] at f1 p1 f2 p2 hR ⊢
  rcases hc with hc | hc
  · have hF := begin_F0 hc
    simp only [dkC, cfgD, wb] at hF
    rw [hF] at hR
    simp only [begE] at hc
    split at hc
    · contradiction
    rename_i c1
    split at hc
    · omega
    rename_i c2
    split at hc
    · omega
    rename_i c3
    have c1' : chkD h.S h.ls h.P next l = 0 := by simpa using c1
    rw [c1'] at f1
    have n1 : ¬ h.l < 0 := by omega
    have n2 : ¬ (h.ls.length : Int) ≤ h.l := by omega
    have n3 : ¬ h.me < 0 := by omega
    have n4 : ¬ h.S ≤ h.me := by omega
    simp (implicitDefEqProofs := false) (maxSteps := 10000000) [ir_coord_begin, h1, x1, f1, p1, h2, x2, f2, p2, n1, n2, n3, n4]
    exact hR _ [(0, some 41), (1, some 390000), (2, none), (3, none), (4, none)] (by simp (implicitDefEqProofs := false) (maxSteps := 10000000))
  · have hF := begin_F1 hc
    simp only [dkC, cfgD] at hF
    rw [hF] at hR
    by_cases c1 : chkD h.S h.ls h.P next l = 0
    · rw [c1] at f1
      by_cases c2 : h.l < 0 ∨ (h.ls.length : Int) ≤ h.l
      · have e : begE h next l = 6 := by simp only [begE, c1, ne_eq, not_true, if_false, if_pos c2]
        rw [e] at hR
        have hb : (decide (h.l < 0) || decide ((h.ls.length : Int) ≤ h.l)) = true := by simpa using c2
        by_cases n1 : h.l < 0
        · simp (implicitDefEqProofs := false) (maxSteps := 10000000) [ir_coord_begin, h1, x1, f1, p1, n1]
          exact hR _ [] (by simp (implicitDefEqProofs := false) (maxSteps := 10000000))
        · have n2 : (h.ls.length : Int) ≤ h.l := by omega
          simp (implicitDefEqProofs := false) (maxSteps := 10000000) [ir_coord_begin, h1, x1, f1, p1, n1, n2]
          exact hR _ [] (by simp (implicitDefEqProofs := false) (maxSteps := 10000000))
      · by_cases c3 : h.me < 0 ∨ h.S ≤ h.me
        · have e : begE h next l = 2 := by simp only [begE, c1, ne_eq, not_true, if_false, if_neg c2, if_pos c3]
          rw [e] at hR
          have n1 : ¬ h.l < 0 := by omega
          have n2 : ¬ (h.ls.length : Int) ≤ h.l := by omega
          by_cases n3 : h.me < 0
          · simp (implicitDefEqProofs := false) (maxSteps := 10000000) [ir_coord_begin, h1, x1, f1, p1, n1, n2, n3]
            exact hR _ [] (by simp (implicitDefEqProofs := false) (maxSteps := 10000000))
          · have n4 : h.S ≤ h.me := by omega
            simp (implicitDefEqProofs := false) (maxSteps := 10000000) [ir_coord_begin, h1, x1, f1, p1, n1, n2, n3, n4]
            exact hR _ [] (by simp (implicitDefEqProofs := false) (maxSteps := 10000000))
        · exact absurd (by simp only [begE, c1, ne_eq, not_true, if_false, if_neg c2, if_neg c3]) hc
    · have e : begE h next l = chkD h.S h.ls h.P next l := by simp only [begE, ne_eq, if_pos c1]
      rw [e] at hR
      simp (implicitDefEqProofs := false) (maxSteps := 10000000) [ir_coord_begin, h1, x1, f1, p1, c1]
      exact hR _ [] (by simp (implicitDefEqProofs := false) (maxSteps := 10000000))
end
end Go.Proofs.YtchbnpjegacobaaDoor
