/-
  Turns at a coordinator: records; a job is dropped; the place of a job. Conditions: those of each specification's 'pre', and that the functions that are called are what theirs say.
-/
import Derived.Test.YtchbnpjegacobaaDoorCoB
set_option linter.unusedVariables false
set_option linter.unusedSimpArgs false
namespace Go.Proofs.YtchbnpjegacobaaDoor
open Go Go.Vcg

/-- One of a row is no more. -/
def delE {α : Type} (l : List α) (i : Nat) : List α := l.take i ++ l.drop (i + 1)
def hs_DelS (sz : Nat) : HSp := {
  pre := fun ds ob => ∃ (es : List (List D)) (i : Nat), ds = [.row 1000000000, .int .i64 i, .int .i64 (i + 1 : Int)] ∧ ob = [(1000000000, .rws sz es)] ∧ i < es.length ∧ es.length ≤ 100000 ∧ (es.all fun e => e.all D.cellS) = true
  F := fun ds ob => match ds, ob with
    | [_, .int _ i, _], [(_, .rws _ es)] => (.row 0, [(0, .rws sz (delE es i.toNat))])
    | _, _ => (.any, []) }
def sp_DelS (sz : Nat) : Sp := { pre := fun _ => True, F := fun _ => .any, hx := some (hs_DelS sz) }
theorem DelS_pre {sz : Nat} {es : List (List D)} {i : Nat} (h : i < es.length) (h1 : es.length ≤ 100000) (h2 : (es.all fun e => e.all D.cellS) = true) : (hs_DelS sz).pre [.row 1000000000, .int .i64 i, .int .i64 (i + 1 : Int)] [(1000000000, .rws sz es)] = True := by
  simp only [hs_DelS, eq_iff_iff, iff_true]; exact ⟨es, i, rfl, rfl, h, h1, h2⟩
theorem DelS_F (sz : Nat) (es : List (List D)) (i : Nat) (x : D) : (hs_DelS sz).F [.row 1000000000, .int .i64 i, x] [(1000000000, .rws sz es)] = (.row 0, [(0, .rws sz (delE es i))]) := by
  simp [hs_DelS]
theorem over_at (A Q z : List (List D)) : over (A ++ Q) A.length z = A ++ (z ++ Q.drop z.length) := by
  simp only [over, List.take_left, List.drop_append, List.drop_eq_nil_of_le (show A.length ≤ A.length + z.length by omega), List.nil_append, Nat.add_sub_cancel_left, List.append_assoc]
theorem del_over {es B : List (List D)} {z : List D} {i : Nat} (hi : i < es.length) (hB : B.take i = es.take i) (hl : es.length ≤ B.length) :
    (over (over B i (es.drop (i + 1))) (es.length - 1) [z]).take (es.length - 1) = delE es i := by
  have hA : (es.take i).length = i := by simp; omega
  have h0 : B = es.take i ++ B.drop i := by rw [← hB, List.take_append_drop]
  have h1 : over B i (es.drop (i + 1)) = (es.take i ++ es.drop (i + 1)) ++ (B.drop i).drop (es.drop (i + 1)).length := by
    have := over_at (es.take i) (B.drop i) (es.drop (i + 1))
    rw [hA, ← h0] at this
    rw [this, List.append_assoc]
  have hl : (es.take i ++ es.drop (i + 1)).length = es.length - 1 := by simp; omega
  have h2 := over_at (es.take i ++ es.drop (i + 1)) ((B.drop i).drop (es.drop (i + 1)).length) [z]
  rw [hl, ← h1] at h2
  rw [h2, ← hl, List.take_left]
  rfl
theorem take_over {es R ns : List (List D)} {i : Nat} (hi : i < es.length) : (over (es ++ R) (i + 1) ns).take i = es.take i := by
  have h1 : ((es ++ R).take (i + 1)).length = i + 1 := by simp; omega
  rw [over, List.append_assoc, List.take_append_of_le_length (by omega), List.take_take, Nat.min_eq_left (by omega), List.take_append_of_le_length (by omega)]

def hs_record : HSp := {
  pre := fun ds ob => ∃ (k n : Int) (h : Hd) (next su co : Int) (ms rs rp : List (List D)), rs.length ≤ 100000 ∧ ((∃ es, ds = [.own 1000000000 0, .int .i64 k, .int .i64 n, .nl 1] ∧ ob = w5 h next su co (.rws 6 es) ms rs rp []) ∨
    (∃ (ss es : List (List D)) (i : Nat) (q st a g : Int) (ts ak : List (List D)), ds = [.own 1000000000 0, .int .i64 k, .int .i64 n, .row 1000000001] ∧ ob = [(1000000000, wb h next 1000000002 1000000003 1000000004 1000000005 su co), (1000000001, .row 1 ss), (1000000002, .rwh 6 es i [.int .i64 q, .int .i64 st, .row 1000000006, .row 1000000007, .int .i64 a, .int .i64 g]), (1000000003, .row 12 ms), (1000000004, .row 8 rs), (1000000005, .row 6 rp), (1000000006, .row 8 ts), (1000000007, .row 1 ak)]))
  F := fun ds ob => match ds, ob with
    | [_, .int _ k, .int _ n, .nl _], (_, .box [s, l, p, lb, .int _ me, nx, _, _, _, _, su, co]) :: j :: m :: (_, .row _ rs) :: X => (.tup [], (1000000000, .box [s, l, p, lb, .int .i64 me, nx, .row 1000000001, .row 1000000002, .row 0, .row 1000000004, su, co]) :: j :: m :: (0, .row 8 (rs ++ [recC ⟨k, me, n, 0, 0, 0, false, []⟩])) :: X)
    | [_, .int _ k, .int _ n, .row _], (_, .box [s, l, p, lb, .int _ me, nx, _, _, _, _, su, co]) :: (_, .row _ ss) :: j :: m :: (_, .row _ rs) :: X => (.tup [], (1000000000, .box [s, l, p, lb, .int .i64 me, nx, .row 1000000002, .row 1000000003, .row 0, .row 1000000005, su, co]) :: j :: m :: (0, .row 8 (rs ++ [[.int .i64 k, .int .i64 me, .int .i64 n, .int .i64 0, .int .i64 0, .int .i64 0, .bool false, .fz 1 ss]])) :: X)
    | _, _ => (.any, []) }
def sp_record : Sp := { pre := fun _ => True, F := fun _ => .any, hx := some hs_record }
theorem record_F (k n : Int) (h : Hd) (next su co : Int) (J : Ob) (ms rs rp : List (List D)) (X : List (Nat × Ob)) : hs_record.F [.own 1000000000 0, .int .i64 k, .int .i64 n, .nl 1] (w5 h next su co J ms rs rp X) = (.tup [], (1000000000, wb h next 1000000001 1000000002 0 1000000004 su co) :: (1000000001, J) :: (1000000002, .row 12 ms) :: (0, .row 8 (rs ++ [recC ⟨k, h.me, n, 0, 0, 0, false, []⟩])) :: (1000000004, .row 6 rp) :: X) := rfl
theorem record_pre (k n : Int) (h : Hd) (next su co : Int) (es ms rp : List (List D)) {rs : List (List D)} (hm : rs.length ≤ 100000) : hs_record.pre [.own 1000000000 0, .int .i64 k, .int .i64 n, .nl 1] (w5 h next su co (.rws 6 es) ms rs rp []) = True := by
  simp only [hs_record, eq_iff_iff, iff_true]; exact ⟨k, n, h, next, su, co, ms, rs, rp, hm, .inl ⟨es, rfl, rfl⟩⟩
theorem recordS_F (k n : Int) (h : Hd) (next su co : Int) (ss : List (List D)) (J : Ob) (ms rs rp : List (List D)) (X : List (Nat × Ob)) : hs_record.F [.own 1000000000 0, .int .i64 k, .int .i64 n, .row 1000000001] ((1000000000, wb h next 1000000002 1000000003 1000000004 1000000005 su co) :: (1000000001, .row 1 ss) :: (1000000002, J) :: (1000000003, .row 12 ms) :: (1000000004, .row 8 rs) :: (1000000005, .row 6 rp) :: X) = (.tup [], (1000000000, wb h next 1000000002 1000000003 0 1000000005 su co) :: (1000000002, J) :: (1000000003, .row 12 ms) :: (0, .row 8 (rs ++ [[.int .i64 k, .int .i64 h.me, .int .i64 n, .int .i64 0, .int .i64 0, .int .i64 0, .bool false, .fz 1 ss]])) :: (1000000005, .row 6 rp) :: X) := rfl
theorem recordS_pre (k n : Int) (h : Hd) (next su co : Int) (ss es : List (List D)) (i : Nat) (q st a g : Int) (ts ak ms rp : List (List D)) {rs : List (List D)} (hm : rs.length ≤ 100000) : hs_record.pre [.own 1000000000 0, .int .i64 k, .int .i64 n, .row 1000000001] [(1000000000, wb h next 1000000002 1000000003 1000000004 1000000005 su co), (1000000001, .row 1 ss), (1000000002, .rwh 6 es i [.int .i64 q, .int .i64 st, .row 1000000006, .row 1000000007, .int .i64 a, .int .i64 g]), (1000000003, .row 12 ms), (1000000004, .row 8 rs), (1000000005, .row 6 rp), (1000000006, .row 8 ts), (1000000007, .row 1 ak)] = True := by
  simp only [hs_record, eq_iff_iff, iff_true]; exact ⟨k, n, h, next, su, co, ms, rs, rp, hm, .inr ⟨ss, es, i, q, st, a, g, ts, ak, rfl, rfl⟩⟩

def hs_drop : HSp := {
  pre := fun ds ob => ∃ (at' : Nat) (h : Hd) (next su co : Int) (es ms rs rp : List (List D)), ds = [.own 1000000000 0, .int .i64 at'] ∧ ob = w5 h next su co (.rws 6 es) ms rs rp [] ∧ at' < es.length ∧ es.length ≤ 100000 ∧ (es.all fun e => e.all D.cellS) = true
  F := fun ds ob => match ds, ob with
    | [_, .int _ i], (_, .box [s, l, p, lb, me, nx, _, _, _, _, su, co]) :: (_, .rws _ es) :: X => (.tup [], (1000000000, .box [s, l, p, lb, me, nx, .row 0, .row 1000000002, .row 1000000003, .row 1000000004, su, co]) :: (0, .rws 6 (delE es i.toNat)) :: X)
    | _, _ => (.any, []) }
def sp_drop : Sp := { pre := fun _ => True, F := fun _ => .any, hx := some hs_drop }
theorem drop_F (at' : Nat) (h : Hd) (next su co : Int) (es ms rs rp : List (List D)) : hs_drop.F [.own 1000000000 0, .int .i64 at'] (w5 h next su co (.rws 6 es) ms rs rp []) = (.tup [], [(1000000000, wb h next 0 1000000002 1000000003 1000000004 su co), (0, .rws 6 (delE es at')), (1000000002, .row 12 ms), (1000000003, .row 8 rs), (1000000004, .row 6 rp)]) := rfl
theorem drop_pre {at' : Nat} (h : Hd) (next su co : Int) {es : List (List D)} (ms rs rp : List (List D)) (h1 : at' < es.length) (h2 : es.length ≤ 100000) (h3 : (es.all fun e => e.all D.cellS) = true) : hs_drop.pre [.own 1000000000 0, .int .i64 at'] (w5 h next su co (.rws 6 es) ms rs rp []) = True := by
  simp only [hs_drop, eq_iff_iff, iff_true]; exact ⟨at', h, next, su, co, es, ms, rs, rp, rfl, rfl, h1, h2, h3⟩

section
variable {T : Tb}
attribute [local simp] k_seq k_block k_skip k_reg k_alt k_cond k_exit k_ret kf_nil kf_seq_n kf_seq_e kf_seq_r kf_blk_n kf_blk_e kf_blk_r kf_lp_n kf_lp_e kf_lp_r kf_cut_n kf_cut_e kf_cut_r mkTm VCops VCalt istep act gd applyE wrapD Opd.ev get_mk set_mk set_mk0 tget16 tset16 tget_0 tset_0 tget_1 tset_1 tget_2 tset_2 tget_3 tset_3 tget_4 tset_4 tget_5 tset_5 tget_6 tset_6 tget_7 tset_7 tget_8 tset_8 tget_9 tset_9 tget_10 tset_10 tget_11 tset_11 tget_12 tset_12 tget_13 tset_13 tget_14 tset_14 tget_15 tset_15 D.un D.gu gus IOp.opds binD fnPost getRes IRes.get oneRes D.out outL D.clos closL D.norow norowL D.lv lvL D.scal scalL D.cells D.cell D.cell' St.lk obPut obDel List.lookup cut pickD splice fillParts fillRows elem_cons newsOf D.pl D.forget forgetL Ob.forget forgetO eqCells sg leD leDL leOb apartK St.le D.keys keysL D.rows rowsL obKeys addKeys reach pos D.ren renL Ob.ren inM outM inObs outObs goneK apartN okNames_eq okNms obNms namesOK_nil namesOK_cons freeOK_nil freeOK_cons D.frz frzL Ob.frz frzO St.frz forgetLs dropObs putObs hcall freeOf keeps baseN shD isShift shMax k_bad VCopsG frz_nil actx actc cnum vwCut St.frzT St.opnT St.clsT D.opn opnL Ob.opn opnO VCou VCcx St.oneS D.objI D.objK scrL D.scr St.opnS St.clsS D.cellS D.fzs fzsL k_mrk k_mrq IOper.gh
set_option maxRecDepth 100000 in
set_option maxHeartbeats 8000000 in
theorem v_DelJ : Verified T ir_slices_Delete_reredos_api_Job_reredos_api_Job (sp_DelS 6) := by
  refine Verified.mkx rfl ?_
  rintro ds ob ⟨es, i, rfl, rfl, hi, hl, hc⟩ R hR
  rw [DelS_F] at hR
  have hne : es ≠ [] := by intro h; subst h; simp at hi
  have hnn : ¬ (i : Int) = i + 1 := by omega
  have t1 : ∀ m : Nat, (((es ++ List.replicate m [D.any, D.any, D.any, D.any, D.any, D.any]).drop (i + 1)).take (es.length - (i + 1))) = es.drop (i + 1) := by
    intro m
    rw [List.drop_append_of_le_length (by omega), ← List.length_drop, List.take_left]
  have l00 : ∀ m : Nat, (over (es ++ List.replicate m [D.any, D.any, D.any, D.any, D.any, D.any]) (i + 1) (List.drop (i + 1) (List.map scrL es))).length = es.length + m := by
    intro m
    rw [length_over (by simp; omega)]; simp
  have t2 : ∀ (m : Nat) (z : List D), (over (over (over (es ++ List.replicate m [D.any, D.any, D.any, D.any, D.any, D.any]) (i + 1) (List.drop (i + 1) (List.map scrL es))) i (es.drop (i + 1))) (es.length - 1) [z]).take (es.length - 1) = delE es i := fun m z => del_over hi (take_over hi) (by rw [l00]; omega)
  have k3 : ∀ m : Nat, es.length ≤ es.length + m - (i + 1) + (i + 1) := by intros; omega
  have k4 : ∀ m : Nat, i + 1 + (es.length - (i + 1)) ≤ es.length + m := by intros; omega
  have k5 : i + (es.length - (i + 1)) = es.length - 1 := by omega
  have k6 : es.length - (es.length - 1) = 1 := by omega
  have l0 : ∀ m : Nat, (over (over (es ++ List.replicate m [D.any, D.any, D.any, D.any, D.any, D.any]) (i + 1) (List.drop (i + 1) (List.map scrL es))) i (es.drop (i + 1))).length = es.length + m := by
    intro m
    rw [length_over (by rw [l00]; simp; omega), l00]
  have l1 : ∀ (m : Nat) (z : List D), (over (over (over (es ++ List.replicate m [D.any, D.any, D.any, D.any, D.any, D.any]) (i + 1) (List.drop (i + 1) (List.map scrL es))) i (es.drop (i + 1))) (es.length - 1) [z]).length = es.length + m := by
    intro m z
    rw [length_over (by rw [l0]; simp; omega), l0]
  have k2 : (es.drop (i + 1)).all (fun e => e.all D.cellS) = true := by
    rw [List.all_eq_true] at hc ⊢
    exact fun e he => hc e (List.mem_of_mem_drop he)
  simp (implicitDefEqProofs := false) (maxSteps := 10000000) [ir_slices_Delete_reredos_api_Job_reredos_api_Job, hne, hnn, t1, t2, k2, k3, k4, k5, k6, l00, l0, l1]
  refine fun m hm => ⟨by omega, by omega, by omega, by omega, by omega, by omega, ⟨by omega, fun e he d hd => ?_⟩, hR _ [(0, some 32)] (by simp (implicitDefEqProofs := false))⟩
  have he' : e ∈ es := by
    rcases List.mem_append.1 he with h | h
    · exact List.mem_of_mem_take h
    · exact List.mem_of_mem_drop h
  exact List.all_eq_true.1 (List.all_eq_true.1 hc e he') d hd
set_option maxRecDepth 100000 in
set_option maxHeartbeats 8000000 in
theorem v_record : Verified T ir_coord_work_record sp_record := by
  refine Verified.mkx rfl ?_
  rintro ds ob ⟨k, n, h, next, su, co, ms, rs, rp, hm, ⟨es, rfl, rfl⟩ | ⟨ss, es, i, q, st, a, g, ts, ak, rfl, rfl⟩⟩ R hR
  · rw [record_F] at hR
    simp only [wb, w5, recC] at hR ⊢
    simp (implicitDefEqProofs := false) (maxSteps := 10000000) [ir_coord_work_record]
    refine ⟨by omega, ?_⟩
    exact hR _ [(0, some 24)] (by simp (implicitDefEqProofs := false) (maxSteps := 10000000))
  · rw [recordS_F] at hR
    simp only [wb, w5, recC] at hR ⊢
    simp (implicitDefEqProofs := false) (maxSteps := 10000000) [ir_coord_work_record]
    refine ⟨by omega, ?_⟩
    exact hR _ [(0, some 24)] (by simp (implicitDefEqProofs := false) (maxSteps := 10000000))
set_option maxRecDepth 100000 in
set_option maxHeartbeats 8000000 in
theorem v_drop (h1 : T.sp n_slices_Delete_reredos_api_Job_reredos_api_Job = some (sp_DelS 6)) : Verified T ir_coord_work_drop sp_drop := by
  refine Verified.mkx rfl ?_
  rintro ds ob ⟨at', h, next, su, co, es, ms, rs, rp, rfl, rfl, ha, hl, hc⟩ R hR
  rw [drop_F] at hR
  have x1 : (sp_DelS 6).hx = some (hs_DelS 6) := rfl
  have f1 := DelS_F 6 es at'
  have p1 := DelS_pre (sz := 6) ha hl hc
  simp only [wb, w5] at hR ⊢
  simp (implicitDefEqProofs := false) (maxSteps := 10000000) [ir_coord_work_drop, h1, x1, f1, p1]
  refine ⟨by simp only [inR]; omega, ?_⟩
  exact hR _ [(0, some 150000)] (by simp (implicitDefEqProofs := false) (maxSteps := 10000000))
end
end Go.Proofs.YtchbnpjegacobaaDoor
