/-
  Turns at a coordinator: the sites that have a hand in a job; those that are to be told. Conditions: those of each specification's 'pre', and that the functions that are called are what theirs say.
-/
import Derived.Test.YtchbnpjegacobaaDoorCoF
set_option linter.unusedVariables false
set_option linter.unusedSimpArgs false
namespace Go.Proofs.YtchbnpjegacobaaDoor
open Go Go.Vcg

/-- A turn's work, a job of it open, what hangs on it first. -/
def w7 (h : Hd) (next su co : Int) (es : List (List D)) (i : Nat) (n st a g : Int) (ts ak ms rs rp : List (List D)) : List (Nat × Ob) :=
  [(1000000000, wb h next 1000000003 1000000004 1000000005 1000000006 su co), (1000000001, .row 8 ts), (1000000002, .row 1 ak), (1000000003, .rwh 6 es i [.int .i64 n, .int .i64 st, .row 1000000001, .row 1000000002, .int .i64 a, .int .i64 g]), (1000000004, .row 12 ms), (1000000005, .row 8 rs), (1000000006, .row 6 rp)]
def sitesU (S l : Int) (ts : List Tk) : List Int := ts.foldl (fun A t => if t.label = l ∧ ¬ t.key.tmod S ∈ A then A ++ [t.key.tmod S] else A) []
noncomputable def sitesF (S l : Int) (ts : List Tk) : List Int := isort (sitesU S l ts)
theorem sitesU_take {S l : Int} {ts : List Tk} {i : Nat} (h : i < ts.length) : sitesU S l (ts.take (i + 1)) = if ts[i].label = l ∧ ¬ ts[i].key.tmod S ∈ sitesU S l (ts.take i) then sitesU S l (ts.take i) ++ [ts[i].key.tmod S] else sitesU S l (ts.take i) := by
  conv => lhs; rw [← List.take_append_getElem h, sitesU, List.foldl_append]
  rfl
theorem sitesU_length (S l : Int) (ts : List Tk) : (sitesU S l ts).length ≤ ts.length := by
  have : ∀ (ts : List Tk) (A : List Int), (ts.foldl (fun A t => if t.label = l ∧ ¬ t.key.tmod S ∈ A then A ++ [t.key.tmod S] else A) A).length ≤ A.length + ts.length := by
    intro ts
    induction ts with
    | nil => intro A; simp
    | cons t ts ih =>
      intro A
      rw [List.foldl_cons]
      refine Nat.le_trans (ih _) ?_
      split <;> simp <;> omega
  have := this ts []
  simpa [sitesU] using this
noncomputable def hs_sites : HSp := {
  pre := fun ds ob => ∃ (h : Hd) (next su co : Int) (es : List (List D)) (i : Nat) (n st a g : Int) (ts : List Tk) (ak ms rs rp : List (List D)), ds = [.own 1000000000 0, .agg [.int .i64 n, .int .i64 st, .row 1000000001, .row 1000000002, .int .i64 a, .int .i64 g]] ∧ ob = w7 h next su co es i n st a g (ts.map tkC) ak ms rs rp ∧ 1 ≤ h.S ∧ ts.length ≤ 12 ∧ ∀ t ∈ ts, 0 ≤ t.key ∧ t.key < 8
  F := fun _ ob => match ob with
    | (b, .box [.int z s, l, p, .int z2 lb, me, nx, r1, r2, r3, r4, su, co]) :: (t, .row k ts) :: X => (.row 0, (b, .box [.int z s, l, p, .int z2 lb, me, nx, r1, r2, r3, r4, su, co]) :: (t, .row k ts) :: (0, .row 1 ((sitesF s lb (ts.map tkOf)).map ic)) :: X)
    | _ => (.any, []) }
noncomputable def sp_sites : Sp := { pre := fun _ => True, F := fun _ => .any, hx := some hs_sites }
theorem sites_F (ds : List D) (h : Hd) (next su co : Int) (es : List (List D)) (i : Nat) (n st a g : Int) (ts : List Tk) (ak ms rs rp : List (List D)) : hs_sites.F ds (w7 h next su co es i n st a g (ts.map tkC) ak ms rs rp) = (.row 0, [(1000000000, wb h next 1000000003 1000000004 1000000005 1000000006 su co), (1000000001, .row 8 (ts.map tkC)), (0, .row 1 ((sitesF h.S h.l ts).map ic)), (1000000002, .row 1 ak), (1000000003, .rwh 6 es i [.int .i64 n, .int .i64 st, .row 1000000001, .row 1000000002, .int .i64 a, .int .i64 g]), (1000000004, .row 12 ms), (1000000005, .row 8 rs), (1000000006, .row 6 rp)]) := by
  simp only [hs_sites, w7, wb, tkL_map]
theorem sites_pre (h : Hd) (next su co : Int) (es : List (List D)) (i : Nat) (n st a g : Int) {ts : List Tk} (ak ms rs rp : List (List D)) (h1 : 1 ≤ h.S) (h2 : ts.length ≤ 12) (h3 : ∀ t ∈ ts, 0 ≤ t.key ∧ t.key < 8) : hs_sites.pre [.own 1000000000 0, .agg [.int .i64 n, .int .i64 st, .row 1000000001, .row 1000000002, .int .i64 a, .int .i64 g]] (w7 h next su co es i n st a g (ts.map tkC) ak ms rs rp) = True := by
  simp only [hs_sites, eq_iff_iff, iff_true]; exact ⟨h, next, su, co, es, i, n, st, a, g, ts, ak, ms, rs, rp, rfl, rfl, h1, h2, h3⟩

theorem elem_snoc (A : List (List D)) (x : List D) : elem (A ++ [x]) A.length = x := by
  simp [elem, List.getD]
theorem set_snoc (A : List (List D)) (x y : List D) : (A ++ [x]).set A.length y = A ++ [y] := by
  rw [List.set_append_right _ _ (Nat.le_refl _)]; simp

/-- Who is told that it is committed. -/
def tellC (me n s : Int) : List D := msgC ⟨4, me, s, me, n, 0, 0, 0, 0, 0, true, 0⟩
def hs_tell : HSp := {
  pre := fun ds ob => ∃ (h : Hd) (next su co : Int) (es : List (List D)) (i : Nat) (n st a g : Int) (ts : List (List D)) (ak : List Int) (ms rs rp : List (List D)), ds = [.own 1000000000 0, .agg [.int .i64 n, .int .i64 st, .row 1000000001, .row 1000000002, .int .i64 a, .int .i64 g]] ∧ ob = w7 h next su co es i n st a g ts (ak.map ic) ms rs rp ∧ ak.length ≤ 100 ∧ ms.length ≤ 10000
  F := fun ds ob => match ds, ob with
    | [_, .agg (.int _ n :: _)], (b, .box [s, l, p, lb, .int z me, nx, r1, _, r3, r4, su, co]) :: t :: (k, .row _ ak) :: j :: (_, .row _ ms) :: X => (.tup [], (b, .box [s, l, p, lb, .int z me, nx, r1, .row 0, r3, r4, su, co]) :: t :: (k, .row 1 ak) :: j :: (0, .row 12 (ms ++ (ak.map intOf).map (tellC me n))) :: X)
    | _, _ => (.any, []) }
def sp_tell : Sp := { pre := fun _ => True, F := fun _ => .any, hx := some hs_tell }
theorem tell_F (h : Hd) (next su co : Int) (es : List (List D)) (i : Nat) (n st a g : Int) (ts : List (List D)) (ak : List Int) (ms rs rp : List (List D)) : hs_tell.F [.own 1000000000 0, .agg [.int .i64 n, .int .i64 st, .row 1000000001, .row 1000000002, .int .i64 a, .int .i64 g]] (w7 h next su co es i n st a g ts (ak.map ic) ms rs rp) = (.tup [], [(1000000000, wb h next 1000000003 0 1000000005 1000000006 su co), (1000000001, .row 8 ts), (1000000002, .row 1 (ak.map ic)), (1000000003, .rwh 6 es i [.int .i64 n, .int .i64 st, .row 1000000001, .row 1000000002, .int .i64 a, .int .i64 g]), (0, .row 12 (ms ++ ak.map (tellC h.me n))), (1000000005, .row 8 rs), (1000000006, .row 6 rp)]) := by
  simp only [hs_tell, w7, wb, icL_map]
theorem tell_pre (h : Hd) (next su co : Int) (es : List (List D)) (i : Nat) (n st a g : Int) (ts : List (List D)) {ak : List Int} {ms : List (List D)} (rs rp : List (List D)) (h1 : ak.length ≤ 100) (h2 : ms.length ≤ 10000) : hs_tell.pre [.own 1000000000 0, .agg [.int .i64 n, .int .i64 st, .row 1000000001, .row 1000000002, .int .i64 a, .int .i64 g]] (w7 h next su co es i n st a g ts (ak.map ic) ms rs rp) = True := by
  simp only [hs_tell, eq_iff_iff, iff_true]; exact ⟨h, next, su, co, es, i, n, st, a, g, ts, ak, ms, rs, rp, rfl, rfl, h1, h2⟩

section
variable {T : Tb}
attribute [local simp] k_seq k_block k_skip k_reg k_alt k_cond k_exit k_ret kf_nil kf_seq_n kf_seq_e kf_seq_r kf_blk_n kf_blk_e kf_blk_r kf_lp_n kf_lp_e kf_lp_r kf_cut_n kf_cut_e kf_cut_r mkTm VCops VCalt istep act gd applyE wrapD Opd.ev get_mk set_mk set_mk0 tget16 tset16 tget_0 tset_0 tget_1 tset_1 tget_2 tset_2 tget_3 tset_3 tget_4 tset_4 tget_5 tset_5 tget_6 tset_6 tget_7 tset_7 tget_8 tset_8 tget_9 tset_9 tget_10 tset_10 tget_11 tset_11 tget_12 tset_12 tget_13 tset_13 tget_14 tset_14 tget_15 tset_15 D.un D.gu gus IOp.opds binD fnPost getRes IRes.get oneRes D.out outL D.clos closL D.norow norowL D.lv lvL D.scal scalL D.cells D.cell D.cell' St.lk obPut obDel List.lookup cut pickD splice fillParts fillRows elem_cons newsOf D.pl D.forget forgetL Ob.forget forgetO eqCells sg leD leDL leOb apartK St.le D.keys keysL D.rows rowsL obKeys addKeys reach pos D.ren renL Ob.ren inM outM inObs outObs goneK apartN okNames_eq okNms obNms namesOK_nil namesOK_cons freeOK_nil freeOK_cons D.frz frzL Ob.frz frzO St.frz forgetLs dropObs putObs hcall freeOf keeps baseN shD isShift shMax k_bad VCopsG frz_nil actx actc cnum vwCut St.frzT St.opnT St.clsT D.opn opnL Ob.opn opnO VCou VCcx St.oneS D.objI D.objK scrL D.scr St.opnS St.clsS D.cellS D.fzs fzsL k_mrk k_mrq IOper.gh
set_option maxRecDepth 100000 in
set_option maxHeartbeats 8000000 in
theorem v_sites (h1 : T.sp n_slices_Contains_int_int = some sp_HasI) (h2 : T.sp n_slices_Sort_int_int = some sp_Sort) : Verified T ir_coord_work_sites sp_sites := by
  refine Verified.mkx rfl ?_
  rintro ds ob ⟨h, next, su, co, es, q, n, st, a, g, ts, ak, ms, rs, rp, rfl, rfl, hS, hl, hk⟩ R hR
  rw [sites_F] at hR
  have x1 : sp_HasI.hx = none := rfl
  have x2 : sp_Sort.hx = some hs_Sort := rfl
  simp only [w7, wb] at hR ⊢
  simp (implicitDefEqProofs := false) (maxSteps := 10000000) [ir_coord_work_sites]
  refine k_loop (ι := {i : Nat // i ≤ ts.length}) (fun x => ⟨mkTm 45 0 [(0, .own 1000000000 0), (5, .row 100), (10, .row 1000000001), (11, .int .i64 ts.length), (12, .int .i64 x.1)], (100, .row 1 ((sitesU h.S h.l (ts.take x.1)).map ic)) :: w7 h next su co es q n st a g (ts.map tkC) ak ms rs rp⟩)
    (fun x => ts.length - x.1) [(100, none)] ⟨0, by omega⟩ (by simp (implicitDefEqProofs := false) (maxSteps := 10000000) [w7, wb, sitesU]) ?_
  rintro ⟨i, hi⟩ P hP
  simp only [w7, wb] at hP ⊢
  rcases Nat.lt_or_ge i ts.length with hlt | hge
  · have hi1 : (i : Int) < ts.length := by omega
    have hel := elem_map tkC ts i hlt
    have htk := sitesU_take (S := h.S) (l := h.l) hlt
    obtain ⟨k1, k2⟩ := hk ts[i] (List.getElem_mem hlt)
    have hUl := sitesU_length h.S h.l (ts.take i)
    rw [List.length_take] at hUl
    generalize sitesU h.S h.l (ts.take i) = U at htk hUl ⊢
    generalize ts[i] = t at hel htk k1 k2
    obtain ⟨t1, t2, t3, t4, t5, t6, t7, t8⟩ := t
    simp only [tkC] at hel htk k1 k2
    have hS0 : ¬ h.S = 0 := by omega
    have hr1 : 0 ≤ t3.tmod h.S := Int.tmod_nonneg _ k1
    have hr2 : t3.tmod h.S < h.S := Int.tmod_lt_of_pos _ (by omega)
    have f1 := hasI_F U (t3.tmod h.S)
    have p1 := hasI_pre (l := U) (t3.tmod h.S) (by omega)
    by_cases hb : t2 = h.l
    · by_cases hm : t3.tmod h.S ∈ U
      · rw [decide_eq_true hm] at f1
        rw [if_neg (fun h => h.2 hm)] at htk
        simp (implicitDefEqProofs := false) (maxSteps := 10000000) [ir_coord_work_sites_b0, hi1, hlt, hel, hS0, h1, x1, f1, p1, hb]
        exact ⟨by simp only [inR]; omega, hP _ [] ⟨i + 1, by omega⟩ (by simp (implicitDefEqProofs := false) (maxSteps := 10000000) [htk]) (by simp only; omega)⟩
      · rw [decide_eq_false hm] at f1
        rw [if_pos ⟨hb, hm⟩] at htk
        simp (implicitDefEqProofs := false) (maxSteps := 10000000) [ir_coord_work_sites_b0, hi1, hlt, hel, hS0, h1, x1, f1, p1, hb]
        exact ⟨⟨by omega, by omega⟩, by simp only [inR]; omega, hP _ [(100, some 40)] ⟨i + 1, by omega⟩ (by simp (implicitDefEqProofs := false) (maxSteps := 10000000) [htk, ic]) (by simp only; omega)⟩
    · rw [if_neg (fun h => hb h.1)] at htk
      simp (implicitDefEqProofs := false) (maxSteps := 10000000) [ir_coord_work_sites_b0, hi1, hlt, hel, hS0, h1, x1, f1, p1, hb]
      exact ⟨by simp only [inR]; omega, hP _ [] ⟨i + 1, by omega⟩ (by simp (implicitDefEqProofs := false) (maxSteps := 10000000) [htk]) (by simp only; omega)⟩
  · have hi1 : ¬ (i : Int) < ts.length := by omega
    obtain rfl : i = ts.length := by omega
    have hUl := sitesU_length h.S h.l ts
    have f2 := sort_F (sitesU h.S h.l ts)
    have p2 := sort_pre (l := sitesU h.S h.l ts) (by omega)
    simp (implicitDefEqProofs := false) (maxSteps := 10000000) [ir_coord_work_sites_b0, ir_coord_work_sites_r1, hi1, h2, x2, f2, p2]
    exact hR _ [(0, some 100)] (by simp (implicitDefEqProofs := false) (maxSteps := 10000000) [sitesF])
set_option maxRecDepth 100000 in
set_option maxHeartbeats 8000000 in
theorem v_tell (h1 : T.sp n_coord_work_send = some sp_send) : Verified T ir_coord_work_tell sp_tell := by
  refine Verified.mkx rfl ?_
  rintro ds ob ⟨h, next, su, co, es, q, n, st, a, g, ts, ak, ms, rs, rp, rfl, rfl, hl, hm⟩ R hR
  rw [tell_F] at hR
  have x1 : sp_send.hx = some hs_send := rfl
  simp only [w7, wb] at hR ⊢
  simp (implicitDefEqProofs := false) (maxSteps := 10000000) [ir_coord_work_tell]
  refine k_loop (ι := {i : Nat // i ≤ ak.length}) (fun x => ⟨mkTm 21 0 [(0, .own 1000000000 0), (3, .own 3 0), (7, .row 1000000002), (8, .int .i64 ak.length), (9, .int .i64 x.1)], [(1000000000, wb h next 1000000003 100 1000000005 1000000006 su co), (1000000001, .row 8 ts), (1000000002, .row 1 (ak.map ic)), (1000000003, .rwh 6 es q [.int .i64 n, .int .i64 st, .row 1000000001, .row 1000000002, .int .i64 a, .int .i64 g]), (100, .row 12 (ms ++ (ak.take x.1).map (tellC h.me n))), (1000000005, .row 8 rs), (1000000006, .row 6 rp), (3, .box [.int .i64 n, .int .i64 st, .row 1000000001, .row 1000000002, .int .i64 a, .int .i64 g])]⟩)
    (fun x => ak.length - x.1) [(100, some 1000000004)] ⟨0, by omega⟩ (by simp (implicitDefEqProofs := false) (maxSteps := 10000000) [wb]) ?_
  rintro ⟨i, hi⟩ P hP
  simp only [wb] at hP ⊢
  rcases Nat.lt_or_ge i ak.length with hlt | hge
  · have hi1 : (i : Int) < ak.length := by omega
    have hel := elem_map ic ak i hlt
    have htk : ms ++ (ak.take (i + 1)).map (tellC h.me n) = (ms ++ (ak.take i).map (tellC h.me n)) ++ [tellC h.me n ak[i]] := by
      rw [← List.take_append_getElem hlt, List.map_append, List.append_assoc]; rfl
    have hML : (ms ++ (ak.take i).map (tellC h.me n)).length ≤ 20000 := by simp; omega
    generalize ms ++ (ak.take i).map (tellC h.me n) = M at htk hML ⊢
    generalize ak[i] = s at hel htk
    rw [List.map_take] at htk
    simp only [ic] at hel
    have f1 := send_F 4 s n h next su co (.rwh 6 es q [.int .i64 n, .int .i64 st, .row 1000000005, .row 1000000006, .int .i64 a, .int .i64 g]) M rs rp [(1000000005, .row 8 ts), (1000000006, .row 1 (ak.map ic))]
    have p1 := send_pre 4 s n h next su co (ms := M) rs rp (Jst.opened es q n st a g ts (ak.map ic)) (by omega)
    have e1 := elem_snoc M (msgC ⟨4, h.me, s, h.me, n, 0, 0, 0, 0, 0, false, 0⟩)
    have e2 := fun y => set_snoc M (msgC ⟨4, h.me, s, h.me, n, 0, 0, 0, 0, 0, false, 0⟩) y
    simp only [wb, w5, msgC] at f1 p1 e1 e2
    simp (implicitDefEqProofs := false) (maxSteps := 10000000) [ir_coord_work_tell_b0, hi1, hlt, hel, h1, x1, f1, p1, e1, e2]
    exact ⟨by simp only [inR]; omega, hP _ [(100, some 180000)] ⟨i + 1, by omega⟩ (by simp (implicitDefEqProofs := false) (maxSteps := 10000000) [htk, tellC, msgC]) (by simp only; omega)⟩
  · have hi1 : ¬ (i : Int) < ak.length := by omega
    obtain rfl : i = ak.length := by omega
    simp (implicitDefEqProofs := false) (maxSteps := 10000000) [ir_coord_work_tell_b0, hi1]
    exact hR _ [(0, some 100)] (by simp (implicitDefEqProofs := false) (maxSteps := 10000000))
end
end Go.Proofs.YtchbnpjegacobaaDoor
