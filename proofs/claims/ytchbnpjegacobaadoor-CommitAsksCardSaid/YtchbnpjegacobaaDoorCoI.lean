/-
  Turns at a coordinator: a job is committed. Conditions: those of each specification's 'pre', and that the functions that are called are what theirs say.
-/
import Derived.Test.YtchbnpjegacobaaDoorCoH
set_option linter.unusedVariables false
set_option linter.unusedSimpArgs false
namespace Go.Proofs.YtchbnpjegacobaaDoor
open Go Go.Vcg

/-- A turn's work behind a step. -/
def wR (h : Hd) (next su co : Int) (js : List Jb) (ms rs rp : List (List D)) : List (Nat × Ob) :=
  [(1000000000, wb h next 0 1 2 3 su co), (0, .rws 6 (js.map jbS)), (1, .row 12 ms), (2, .row 8 rs), (3, .row 6 rp)]
/-- The work as the walk's own. -/
def wI (h : Hd) (next su co : Int) (js : List Jb) (ms rs rp : List (List D)) : List (Nat × Ob) := w5 h next su co (.rws 6 (js.map jbS)) ms rs rp []
theorem jAt_map (js : List Jb) (i : Nat) : jAt ((js.map jbS).map jbSOf) i = jAt js i := by rw [jbsS_of]
noncomputable def cmS (h : Hd) (j : Jb) : List Int := sitesF h.S h.l j.tasks
def cmJL (js : List Jb) (i : Nat) (j : Jb) (L : List Int) : List Jb := if L.isEmpty = true then delE js i else js.set i ⟨j.n, 3, j.tasks, L, j.asks, 0⟩
def cmRL (me : Int) (j : Jb) (L : List Int) : List (List D) := if L.isEmpty = true then [] else if (j.tasks.any fun t => t.wr) = true then [recC ⟨3, me, j.n, 0, 0, 0, false, L⟩] else []
noncomputable def cmJ (h : Hd) (js : List Jb) (i : Nat) : List Jb := cmJL js i (jAt js i) (cmS h (jAt js i))
noncomputable def cmM (h : Hd) (j : Jb) : List (List D) := (cmS h j).map (tellC h.me j.n)
noncomputable def cmR (h : Hd) (j : Jb) : List (List D) := cmRL h.me j (cmS h j)
/-- What a work's objects say. -/
def hdOf : Ob → Hd × Int × Int × Int
  | .box [.int _ s, l, .int _ p, .int _ lb, .int _ me, .int _ nx, _, _, _, _, .int _ su, .int _ co] => (⟨s, (match l with | .fz _ es => es.map lbL | _ => []), p, lb, me⟩, nx, su, co)
  | _ => (⟨0, [], 0, 0, 0⟩, 0, 0, 0)
theorem hdOf_wb (h : Hd) (next : Int) (a b c d : Nat) (su co : Int) : hdOf (wb h next a b c d su co) = (h, next, su, co) := by
  obtain ⟨s, l, p, lb, me⟩ := h
  have e : (l.map lbc).map lbL = l := by rw [List.map_map, lbL_lbc, List.map_id]
  simp only [hdOf, wb, e]
noncomputable def hs_commit : HSp := {
  pre := fun ds ob => ∃ (i : Nat) (h : Hd) (next su co : Int) (js : List Jb) (ms rs rp : List (List D)), ds = [.own 1000000000 0, .int .i64 i] ∧ ob = wI h next su co js ms rs rp ∧ i < js.length ∧ js.length ≤ 1000 ∧ okTs (jAt js i) ∧ 1 ≤ h.S ∧ ms.length ≤ 10000 ∧ rs.length ≤ 10000 ∧ rp.length ≤ 10000
  F := fun ds ob => match ds, ob with
    | [_, .int _ i], [(_, b), (_, .rws _ es), (_, .row _ ms), (_, .row _ rs), (_, .row _ rp)] =>
      (.tup [], wR (hdOf b).1 (hdOf b).2.1 (hdOf b).2.2.1 (jAt (es.map jbSOf) i.toNat).n (cmJ (hdOf b).1 (es.map jbSOf) i.toNat) (ms ++ cmM (hdOf b).1 (jAt (es.map jbSOf) i.toNat)) (rs ++ cmR (hdOf b).1 (jAt (es.map jbSOf) i.toNat)) (rp ++ [rpC ⟨(hdOf b).1.me, 4, (jAt (es.map jbSOf) i.toNat).n, 0, 0, 0⟩]))
    | _, _ => (.any, []) }
noncomputable def sp_commit : Sp := { pre := fun _ => True, F := fun _ => .any, hx := some hs_commit }
theorem commit_F (i : Nat) (h : Hd) (next su co : Int) (js : List Jb) (ms rs rp : List (List D)) : hs_commit.F [.own 1000000000 0, .int .i64 i] (wI h next su co js ms rs rp) = (.tup [], wR h next su (jAt js i).n (cmJ h js i) (ms ++ cmM h (jAt js i)) (rs ++ cmR h (jAt js i)) (rp ++ [rpC ⟨h.me, 4, (jAt js i).n, 0, 0, 0⟩])) := by
  simp only [hs_commit, wI, w5, jbsS_of, hdOf_wb, Int.toNat_natCast]
theorem commit_pre {i : Nat} (h : Hd) (next su co : Int) {js : List Jb} {ms rs rp : List (List D)} (hi : i < js.length) (hl : js.length ≤ 1000) (hj : okTs (jAt js i)) (hS : 1 ≤ h.S) (h1 : ms.length ≤ 10000) (h2 : rs.length ≤ 10000) (h3 : rp.length ≤ 10000) : hs_commit.pre [.own 1000000000 0, .int .i64 i] (wI h next su co js ms rs rp) = True := by
  simp only [hs_commit, eq_iff_iff, iff_true]; exact ⟨i, h, next, su, co, js, ms, rs, rp, rfl, rfl, hi, hl, hj, hS, h1, h2, h3⟩

section
variable {T : Tb}
attribute [local simp] k_seq k_block k_skip k_reg k_alt k_cond k_exit k_ret kf_nil kf_seq_n kf_seq_e kf_seq_r kf_blk_n kf_blk_e kf_blk_r kf_lp_n kf_lp_e kf_lp_r kf_cut_n kf_cut_e kf_cut_r mkTm VCops VCalt istep act gd applyE wrapD Opd.ev get_mk set_mk set_mk0 tget16 tset16 tget_0 tset_0 tget_1 tset_1 tget_2 tset_2 tget_3 tset_3 tget_4 tset_4 tget_5 tset_5 tget_6 tset_6 tget_7 tset_7 tget_8 tset_8 tget_9 tset_9 tget_10 tset_10 tget_11 tset_11 tget_12 tset_12 tget_13 tset_13 tget_14 tset_14 tget_15 tset_15 D.un D.gu gus IOp.opds binD fnPost getRes IRes.get oneRes D.out outL D.clos closL D.norow norowL D.lv lvL D.scal scalL D.cells D.cell D.cell' St.lk obPut obDel List.lookup cut pickD splice fillParts fillRows elem_cons newsOf D.pl D.forget forgetL Ob.forget forgetO eqCells sg leD leDL leOb apartK St.le D.keys keysL D.rows rowsL obKeys addKeys reach pos D.ren renL Ob.ren inM outM inObs outObs goneK apartN okNames_eq okNms obNms namesOK_nil namesOK_cons freeOK_nil freeOK_cons D.frz frzL Ob.frz frzO St.frz forgetLs dropObs putObs hcall freeOf keeps baseN shD isShift shMax k_bad VCopsG frz_nil actx actc cnum vwCut St.frzT St.opnT St.clsT D.opn opnL Ob.opn opnO VCou VCcx St.oneS D.objI D.objK scrL D.scr St.opnS St.clsS D.cellS D.fzs fzsL k_mrk k_mrq IOper.gh
set_option maxRecDepth 100000 in
set_option maxHeartbeats 8000000 in
theorem v_commit (h1 : T.sp n_coord_work_sites = some sp_sites) (h2 : T.sp n_coord_work_reply = some sp_reply) (h3 : T.sp n_coord_work_drop = some sp_drop) (h4 : T.sp n_slices_ContainsFunc_reredos_api_Task_reredos_api_Task = some sp_SomeT) (h5 : T.sp n_slices_Clone_int_int = some sp_ClnI) (h6 : T.sp n_coord_work_record = some sp_record) (h7 : T.sp n_coord_work_tell = some sp_tell) : Verified T ir_coord_work_commit sp_commit := by
  refine Verified.mkx rfl ?_
  rintro ds ob ⟨i, h, next, su, co, js, ms, rs, rp, rfl, rfl, hi, hl, hj, hS, hm1, hm2, hm3⟩ R hR
  rw [commit_F] at hR
  have x1 : sp_sites.hx = some hs_sites := rfl
  have x2 : sp_reply.hx = some hs_reply := rfl
  have x3 : sp_drop.hx = some hs_drop := rfl
  have x4 : sp_SomeT.hx = none := rfl
  have x5 : sp_ClnI.hx = some hs_ClnI := rfl
  have x6 : sp_record.hx = some hs_record := rfl
  have x7 : sp_tell.hx = some hs_tell := rfl
  have hi1 : (i : Int) < js.length := by omega
  have hel := elem_jbS hi
  obtain ⟨j1, j2, j3⟩ := hj
  have hse := fun e => set_jbS (e := e) hi
  rw [← jAt_eq hi] at hse
  have hst := fun j => List.map_set (f := jbS) (l := js) (i := i) (a := j)
  simp only [cmJ, cmM, cmR, cmS] at hR
  generalize jAt js i = j at hel j1 j2 j3 hse hR
  obtain ⟨a1, a2, a3, a4, a5, a6⟩ := j
  simp only [jbS] at hel hse j1 j2 j3
  have hse' := hse _ rfl
  have f1 := fun ds => sites_F ds h next su co (js.map jbS) i a1 a2 a5 a6 a3 (a4.map ic) ms rs rp
  have p1 := sites_pre h next su co (js.map jbS) i a1 a2 a5 a6 (a4.map ic) ms rs rp hS j1 j3
  have f2 := reply_F 4 a1 0 0 0 h next su a1 (.rwh 6 (js.map jbS) i [.int .i64 a1, .int .i64 a2, .row 1000000005, .row 1000000006, .int .i64 a5, .int .i64 a6]) ms rs rp [(1000000005, .row 8 (a3.map tkC)), (1000000006, .row 1 (a4.map ic))]
  have p2 := reply_pre 4 a1 0 0 0 h next su a1 ms rs (rp := rp) (Jst.opened (js.map jbS) i a1 a2 a5 a6 (a3.map tkC) (a4.map ic)) (by omega)
  have hL : (sitesF h.S h.l a3).length ≤ 12 := by
    have := sitesU_length h.S h.l a3
    rw [sitesF, isort_length]; omega
  simp only at hR
  generalize hLL : sitesF h.S h.l a3 = L at f1 hL hR
  have f4 := someT_F a3
  have p4 := someT_pre (l := a3) (by omega)
  simp only [n_coord_work_commit_1] at p4
  by_cases h0 : L = []
  · subst h0
    simp only [cmJL, cmRL, List.isEmpty_nil, if_true, List.map_nil, List.append_nil] at hR
    have f3 := drop_F i h next su a1 (js.map jbS) ms rs (rp ++ [rpC ⟨h.me, 4, a1, 0, 0, 0⟩])
    have p3 := drop_pre (at' := i) h next su a1 (es := js.map jbS) ms rs (rp ++ [rpC ⟨h.me, 4, a1, 0, 0, 0⟩]) (by simpa using hi) (by simp; omega) (all_jbS js)
    simp only [wI, wR, w5, w7, wb, rpC, delE_map] at f1 p1 f2 p2 f3 p3 hR ⊢
    simp (implicitDefEqProofs := false) (maxSteps := 10000000) [ir_coord_work_commit, hi, hi1, hel, h1, x1, f1, p1, hse', h2, x2, f2, p2, h3, x3, f3, p3]
    exact hR _ [(0, some 390000), (1, some 1000000002), (2, some 1000000003), (3, some 330000)] (by simp (implicitDefEqProofs := false) (maxSteps := 10000000))
  · have h0e : L.isEmpty = false := by cases L with | nil => exact absurd rfl h0 | cons _ _ => rfl
    simp only [cmJL, cmRL, h0e, Bool.false_eq_true, if_false] at hR
    have h00 : ¬ (L.length : Int) = 0 := by
      intro h; exact h0 (List.eq_nil_of_length_eq_zero (by omega))
    have hset : (js.map jbS).set i [.int .i64 a1, .int .i64 3, .sub 8 (a3.map tkC), .sub 1 (L.map ic), .int .i64 a5, .int .i64 0] = (js.set i ⟨a1, 3, a3, L, a5, 0⟩).map jbS := (hst ⟨a1, 3, a3, L, a5, 0⟩).symm
    cases hw : a3.any fun t => t.wr
    · simp only [hw, Bool.false_eq_true, if_false, List.append_nil] at hR f4
      have f7 := tell_F h next su a1 (js.map jbS) i a1 3 a5 0 (a3.map tkC) L ms rs (rp ++ [rpC ⟨h.me, 4, a1, 0, 0, 0⟩])
      have p7 := tell_pre h next su a1 (js.map jbS) i a1 3 a5 0 (a3.map tkC) (ak := L) (ms := ms) rs (rp ++ [rpC ⟨h.me, 4, a1, 0, 0, 0⟩]) (by omega) (by omega)
      simp only [wI, wR, w5, w7, wb, rpC] at f1 p1 f2 p2 f7 p7 hR ⊢
      simp (implicitDefEqProofs := false) (maxSteps := 10000000) [ir_coord_work_commit, hi, hi1, hel, h1, x1, f1, p1, h2, x2, f2, p2, h00, h0, h4, x4, f4, p4, h7, x7, f7, p7, hset]
      exact hR _ [(0, some 1000000001), (1, some 670000), (2, some 1000000003), (3, some 330000)] (by simp (implicitDefEqProofs := false) (maxSteps := 10000000))
    · simp only [hw, if_true] at hR f4
      have f5 := ClnR_F (L.map ic)
      have p5 := ClnR_pre (l := L) (by omega)
      have f6 := recordS_F 3 a1 h next su a1 (L.map ic) (.rwh 6 (js.map jbS) i [.int .i64 a1, .int .i64 a2, .row 1000000006, .row 1000000007, .int .i64 a5, .int .i64 a6]) ms rs (rp ++ [rpC ⟨h.me, 4, a1, 0, 0, 0⟩]) [(1000000006, .row 8 (a3.map tkC)), (1000000007, .row 1 (a4.map ic))]
      have p6 := recordS_pre 3 a1 h next su a1 (L.map ic) (js.map jbS) i a1 a2 a5 a6 (a3.map tkC) (a4.map ic) ms (rp ++ [rpC ⟨h.me, 4, a1, 0, 0, 0⟩]) (rs := rs) (by omega)
      have f7 := tell_F h next su a1 (js.map jbS) i a1 3 a5 0 (a3.map tkC) L ms (rs ++ [recC ⟨3, h.me, a1, 0, 0, 0, false, L⟩]) (rp ++ [rpC ⟨h.me, 4, a1, 0, 0, 0⟩])
      have p7 := tell_pre h next su a1 (js.map jbS) i a1 3 a5 0 (a3.map tkC) (ak := L) (ms := ms) (rs ++ [recC ⟨3, h.me, a1, 0, 0, 0, false, L⟩]) (rp ++ [rpC ⟨h.me, 4, a1, 0, 0, 0⟩]) (by omega) (by omega)
      simp only [wI, wR, w5, w7, wb, rpC, recC] at f1 p1 f2 p2 f6 p6 f7 p7 hR ⊢
      simp (implicitDefEqProofs := false) (maxSteps := 10000000) [ir_coord_work_commit, hi, hi1, hel, h1, x1, f1, p1, h2, x2, f2, p2, h00, h0, h4, x4, f4, p4, h5, x5, f5, p5, h6, x6, f6, p6, h7, x7, f7, p7, hset]
      exact hR _ [(0, some 1000000001), (1, some 670000), (2, some 520000), (3, some 330000)] (by simp (implicitDefEqProofs := false) (maxSteps := 10000000))
end
end Go.Proofs.YtchbnpjegacobaaDoor
