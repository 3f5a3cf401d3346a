/-
  Turns at a coordinator: a job ends, or is committed. Conditions: those of each specification's 'pre', and that the functions that are called are what theirs say.
-/
import Derived.Test.YtchbnpjegacobaaDoorCoG
set_option linter.unusedVariables false
set_option linter.unusedSimpArgs false
namespace Go.Proofs.YtchbnpjegacobaaDoor
open Go Go.Vcg

theorem all_jbS (l : List Jb) : ((l.map jbS).all fun e => e.all D.cellS) = true := by
  rw [List.all_eq_true]
  intro e he
  obtain ⟨j, _, rfl⟩ := List.mem_map.1 he
  simp [jbS, D.cellS, D.cell]
theorem set_jbS {l : List Jb} {i : Nat} (h : i < l.length) {e : List D} (he : jbS l[i] = e) : (l.map jbS).set i e = l.map jbS := by
  subst he
  apply List.ext_getElem (by simp)
  intro k h1 h2
  rw [List.getElem_set]
  split
  · rename_i hk; subst hk; simp
  · rfl
theorem delE_map (l : List Jb) (i : Nat) : delE (l.map jbS) i = (delE l i).map jbS := by
  simp [delE]
theorem delE_length {α : Type} {l : List α} {i : Nat} (h : i < l.length) : (delE l i).length = l.length - 1 := by
  simp [delE]; omega
/-- Tasks of a job that its sites can be found of. -/
def okTs (j : Jb) : Prop := j.tasks.length ≤ 12 ∧ j.asked.length ≤ 12 ∧ ∀ t ∈ j.tasks, 0 ≤ t.key ∧ t.key < 8
def jAt (js : List Jb) (i : Nat) : Jb := js.getD i jb0
theorem jAt_eq {js : List Jb} {i : Nat} (h : i < js.length) : jAt js i = js[i] := by simp [jAt, h]
theorem elem_jbS {js : List Jb} {i : Nat} (h : i < js.length) : elem (js.map jbS) i = jbS (jAt js i) := by
  rw [elem_map jbS js i h, jAt_eq h]
/-- Who is told that it is not. -/
def endC (me n s : Int) : List D := msgC ⟨4, me, s, me, n, 0, 0, 0, 0, 0, false, 0⟩
noncomputable def hs_end : HSp := {
  pre := fun ds ob => ∃ (i : Nat) (h : Hd) (next su co : Int) (js : List Jb) (ms rs rp : List (List D)), ds = [.own 1000000000 0, .int .i64 i] ∧ ob = w5 h next su co (.rws 6 (js.map jbS)) ms rs rp [] ∧ i < js.length ∧ js.length ≤ 1000 ∧ okTs (jAt js i) ∧ 1 ≤ h.S ∧ ms.length ≤ 10000
  F := fun ds ob => match ds, ob with
    | [_, .int _ i], (_, .box [.int z s, l, p, .int z2 lb, .int z3 me, nx, _, _, r3, r4, su, co]) :: (_, .rws _ es) :: (_, .row _ ms) :: X => (.tup [], (1000000000, .box [.int z s, l, p, .int z2 lb, .int z3 me, nx, .row 0, .row 1, r3, r4, su, co]) :: (0, .rws 6 (delE es i.toNat)) :: (1, .row 12 (ms ++ (sitesF s lb (jbSOf (elem es i.toNat)).tasks).map (endC me (jbSOf (elem es i.toNat)).n))) :: X)
    | _, _ => (.any, []) }
noncomputable def sp_end : Sp := { pre := fun _ => True, F := fun _ => .any, hx := some hs_end }
theorem end_F {i : Nat} (h : Hd) (next su co : Int) {js : List Jb} (ms rs rp : List (List D)) (hi : i < js.length) : hs_end.F [.own 1000000000 0, .int .i64 i] (w5 h next su co (.rws 6 (js.map jbS)) ms rs rp []) = (.tup [], [(1000000000, wb h next 0 1 1000000003 1000000004 su co), (0, .rws 6 ((delE js i).map jbS)), (1, .row 12 (ms ++ (sitesF h.S h.l (jAt js i).tasks).map (endC h.me (jAt js i).n))), (1000000003, .row 8 rs), (1000000004, .row 6 rp)]) := by
  simp only [hs_end, w5, wb, Int.toNat_natCast, elem_jbS hi, jbSOf_jbS, delE_map]
theorem end_pre {i : Nat} (h : Hd) (next su co : Int) {js : List Jb} {ms : List (List D)} (rs rp : List (List D)) (hi : i < js.length) (hl : js.length ≤ 1000) (hj : okTs (jAt js i)) (hS : 1 ≤ h.S) (hm : ms.length ≤ 10000) : hs_end.pre [.own 1000000000 0, .int .i64 i] (w5 h next su co (.rws 6 (js.map jbS)) ms rs rp []) = True := by
  simp only [hs_end, eq_iff_iff, iff_true]; exact ⟨i, h, next, su, co, js, ms, rs, rp, rfl, rfl, hi, hl, hj, hS, hm⟩

section
variable {T : Tb}
attribute [local simp] k_seq k_block k_skip k_reg k_alt k_cond k_exit k_ret kf_nil kf_seq_n kf_seq_e kf_seq_r kf_blk_n kf_blk_e kf_blk_r kf_lp_n kf_lp_e kf_lp_r kf_cut_n kf_cut_e kf_cut_r mkTm VCops VCalt istep act gd applyE wrapD Opd.ev get_mk set_mk set_mk0 tget16 tset16 tget_0 tset_0 tget_1 tset_1 tget_2 tset_2 tget_3 tset_3 tget_4 tset_4 tget_5 tset_5 tget_6 tset_6 tget_7 tset_7 tget_8 tset_8 tget_9 tset_9 tget_10 tset_10 tget_11 tset_11 tget_12 tset_12 tget_13 tset_13 tget_14 tset_14 tget_15 tset_15 D.un D.gu gus IOp.opds binD fnPost getRes IRes.get oneRes D.out outL D.clos closL D.norow norowL D.lv lvL D.scal scalL D.cells D.cell D.cell' St.lk obPut obDel List.lookup cut pickD splice fillParts fillRows elem_cons newsOf D.pl D.forget forgetL Ob.forget forgetO eqCells sg leD leDL leOb apartK St.le D.keys keysL D.rows rowsL obKeys addKeys reach pos D.ren renL Ob.ren inM outM inObs outObs goneK apartN okNames_eq okNms obNms namesOK_nil namesOK_cons freeOK_nil freeOK_cons D.frz frzL Ob.frz frzO St.frz forgetLs dropObs putObs hcall freeOf keeps baseN shD isShift shMax k_bad VCopsG frz_nil actx actc cnum vwCut St.frzT St.opnT St.clsT D.opn opnL Ob.opn opnO VCou VCcx St.oneS D.objI D.objK scrL D.scr St.opnS St.clsS D.cellS D.fzs fzsL k_mrk k_mrq IOper.gh
set_option maxRecDepth 100000 in
set_option maxHeartbeats 8000000 in
theorem v_end (h1 : T.sp n_coord_work_sites = some sp_sites) (h2 : T.sp n_coord_work_send = some sp_send) (h3 : T.sp n_coord_work_drop = some sp_drop) : Verified T ir_coord_work_end sp_end := by
  refine Verified.mkx rfl ?_
  rintro ds ob ⟨i, h, next, su, co, js, ms, rs, rp, rfl, rfl, hi, hl, hj, hS, hm⟩ R hR
  rw [end_F _ _ _ _ _ _ _ hi] at hR
  have x1 : sp_sites.hx = some hs_sites := rfl
  have x2 : sp_send.hx = some hs_send := rfl
  have x3 : sp_drop.hx = some hs_drop := rfl
  have hi1 : (i : Int) < js.length := by omega
  have hel := elem_jbS hi
  obtain ⟨j1, j2, j3⟩ := hj
  have hse := fun e => set_jbS (e := e) hi
  rw [← jAt_eq hi] at hse
  generalize jAt js i = j at hel j1 j2 j3 hse hR
  obtain ⟨a1, a2, a3, a4, a5, a6⟩ := j
  simp only [jbS] at hel hse j1 j2 j3
  have hse' := hse _ rfl
  have f1 := fun ds => sites_F ds h next su co (js.map jbS) i a1 a2 a5 a6 a3 (a4.map ic) ms rs rp
  have p1 := sites_pre h next su co (js.map jbS) i a1 a2 a5 a6 (a4.map ic) ms rs rp hS j1 j3
  simp only [w5, w7, wb] at f1 p1 hR ⊢
  simp (implicitDefEqProofs := false) (maxSteps := 10000000) [ir_coord_work_end, hi, hi1, hel, h1, x1, f1, p1, hse']
  have hL : (sitesF h.S h.l a3).length ≤ 12 := by
    have := sitesU_length h.S h.l a3
    rw [sitesF, isort_length]; omega
  generalize sitesF h.S h.l a3 = L at hL hR ⊢
  refine k_loop (ι := {k : Nat // k ≤ L.length}) (fun x => ⟨mkTm 33 0 [(0, .own 1000000000 0), (1, .int .i64 i), (4, .own 4 0), (18, .row 190000), (19, .int .i64 L.length), (20, .int .i64 x.1)], [(1000000000, wb h next 1000000001 100 1000000003 1000000004 su co), (1000000001, .rws 6 (js.map jbS)), (100, .row 12 (ms ++ (L.take x.1).map (endC h.me a1))), (1000000003, .row 8 rs), (1000000004, .row 6 rp), (4, .box [.int .i64 a1, .int .i64 a2, .any, .any, .int .i64 a5, .int .i64 a6]), (190000, .row 1 (L.map ic))]⟩)
    (fun x => L.length - x.1) [(100, some 1000000002)] ⟨0, by omega⟩ (by simp (implicitDefEqProofs := false) (maxSteps := 10000000) [wb]) ?_
  rintro ⟨k, hk⟩ P hP
  simp only [wb] at hP ⊢
  rcases Nat.lt_or_ge k L.length with hlt | hge
  · have hk1 : (k : Int) < L.length := by omega
    have hel2 := elem_map ic L k hlt
    have htk : ms ++ (L.take (k + 1)).map (endC h.me a1) = (ms ++ (L.take k).map (endC h.me a1)) ++ [endC h.me a1 L[k]] := by
      rw [← List.take_append_getElem hlt, List.map_append, List.append_assoc]; rfl
    have hML : (ms ++ (L.take k).map (endC h.me a1)).length ≤ 20000 := by simp; omega
    generalize ms ++ (L.take k).map (endC h.me a1) = M at htk hML ⊢
    generalize L[k] = s at hel2 htk
    rw [List.map_take] at htk
    simp only [ic] at hel2
    have f2 := send_F 4 s a1 h next su co (.rws 6 (js.map jbS)) M rs rp []
    have p2 := send_pre 4 s a1 h next su co (ms := M) rs rp (Jst.shut (js.map jbS)) (by omega)
    simp only [wb, w5, msgC] at f2 p2
    simp (implicitDefEqProofs := false) (maxSteps := 10000000) [ir_coord_work_end_b0, hk1, hlt, hel2, h2, x2, f2, p2]
    exact ⟨by simp only [inR]; omega, hP _ [(100, some 290000)] ⟨k + 1, by omega⟩ (by simp (implicitDefEqProofs := false) (maxSteps := 10000000) [htk, endC, msgC]) (by simp only; omega)⟩
  · have hk1 : ¬ (k : Int) < L.length := by omega
    obtain rfl : k = L.length := by omega
    have f3 := drop_F i h next su co (js.map jbS) (ms ++ L.map (endC h.me a1)) rs rp
    have p3 := drop_pre (at' := i) h next su co (es := js.map jbS) (ms ++ L.map (endC h.me a1)) rs rp (by simpa using hi) (by simp; omega) (all_jbS js)
    simp only [wb, w5, delE_map] at f3 p3
    simp (implicitDefEqProofs := false) (maxSteps := 10000000) [ir_coord_work_end_b0, ir_coord_work_end_r1, hk1, h3, x3, f3, p3]
    exact hR _ [(0, some 330000), (1, some 100)] (by simp (implicitDefEqProofs := false) (maxSteps := 10000000))
end
end Go.Proofs.YtchbnpjegacobaaDoor
