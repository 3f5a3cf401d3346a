/-
  Turns at a coordinator: their data; what sends, records and replies. Conditions: those of each specification's 'pre', and that the functions that are called are what theirs say.
-/
import Derived.Test.YtchbnpjegacobaaDoorCoA
set_option linter.unusedVariables false
set_option linter.unusedSimpArgs false
namespace Go.Proofs.YtchbnpjegacobaaDoor
open Go Go.Vcg

/-- What stays as it is for a turn. -/
structure Hd where
  (S : Int) (ls : List (Int × Int)) (P l me : Int)
def jbS (j : Jb) : List D := [.int .i64 j.n, .int .i64 j.state, .sub 8 (j.tasks.map tkC), .sub 1 (j.asked.map ic), .int .i64 j.asks, .int .i64 j.age]
theorem outE_jbS : ∀ l : List Jb, outE (l.map jbS) = l.map jbC
  | [] => rfl
  | j :: l => by simp only [List.map_cons, outE, outE_jbS l]; rfl
structure Rc where
  (kind site n key value ask : Int) (yes : Bool) (sites : List Int)
  deriving DecidableEq
def recC (r : Rc) : List D := [.int .i64 r.kind, .int .i64 r.site, .int .i64 r.n, .int .i64 r.key, .int .i64 r.value, .int .i64 r.ask, .bool r.yes, .fz 1 (r.sites.map ic)]
structure Rp where
  (site kind n key value code : Int)
  deriving DecidableEq
def rpC (r : Rp) : List D := [.int .i64 r.site, .int .i64 r.kind, .int .i64 r.n, .int .i64 r.key, .int .i64 r.value, .int .i64 r.code]
/-- The box of a turn's work. -/
def wb (h : Hd) (next : Int) (a b c d : Nat) (su co : Int) : Ob := .box [.int .i64 h.S, .fz 2 (h.ls.map lbc), .int .i64 h.P, .int .i64 h.l, .int .i64 h.me, .int .i64 next, .row a, .row b, .row c, .row d, .int .i64 su, .int .i64 co]
/-- A turn's work, with what stands for its jobs, and with what hangs on them. -/
def w5 (h : Hd) (next su co : Int) (J : Ob) (ms rs rp : List (List D)) (X : List (Nat × Ob)) : List (Nat × Ob) :=
  (1000000000, wb h next 1000000001 1000000002 1000000003 1000000004 su co) :: (1000000001, J) :: (1000000002, .row 12 ms) :: (1000000003, .row 8 rs) :: (1000000004, .row 6 rp) :: X
/-- Jobs; a job of them may be open. -/
inductive Jst : Ob → List (Nat × Ob) → Prop
  | shut (es : List (List D)) : Jst (.rws 6 es) []
  | opened (es : List (List D)) (i : Nat) (n st a g : Int) (ts ak : List (List D)) : Jst (.rwh 6 es i [.int .i64 n, .int .i64 st, .row 1000000005, .row 1000000006, .int .i64 a, .int .i64 g]) [(1000000005, .row 8 ts), (1000000006, .row 1 ak)]

def hs_send : HSp := {
  pre := fun ds ob => ∃ (k t n : Int) (h : Hd) (next su co : Int) (J : Ob) (ms rs rp : List (List D)) (X : List (Nat × Ob)), ds = [.own 1000000000 0, .int .i64 k, .int .i64 t, .int .i64 n] ∧ ob = w5 h next su co J ms rs rp X ∧ Jst J X ∧ ms.length ≤ 100000
  F := fun ds ob => match ds, ob with
    | [_, .int _ k, .int _ t, .int _ n], (_, .box [s, l, p, lb, .int _ me, nx, _, _, _, _, su, co]) :: j :: (_, .row _ ms) :: X => (.elr 0 12 ms.length 0, (1000000000, .box [s, l, p, lb, .int .i64 me, nx, .row 1000000001, .row 0, .row 1000000003, .row 1000000004, su, co]) :: j :: (0, .row 12 (ms ++ [msgC ⟨k, me, t, me, n, 0, 0, 0, 0, 0, false, 0⟩])) :: X)
    | _, _ => (.any, []) }
def sp_send : Sp := { pre := fun _ => True, F := fun _ => .any, hx := some hs_send }
theorem send_F (k t n : Int) (h : Hd) (next su co : Int) (J : Ob) (ms rs rp : List (List D)) (X : List (Nat × Ob)) : hs_send.F [.own 1000000000 0, .int .i64 k, .int .i64 t, .int .i64 n] (w5 h next su co J ms rs rp X) = (.elr 0 12 ms.length 0, (1000000000, wb h next 1000000001 0 1000000003 1000000004 su co) :: (1000000001, J) :: (0, .row 12 (ms ++ [msgC ⟨k, h.me, t, h.me, n, 0, 0, 0, 0, 0, false, 0⟩])) :: (1000000003, .row 8 rs) :: (1000000004, .row 6 rp) :: X) := rfl
theorem send_pre (k t n : Int) (h : Hd) (next su co : Int) {J : Ob} {ms : List (List D)} (rs rp : List (List D)) {X : List (Nat × Ob)} (hJ : Jst J X) (hm : ms.length ≤ 100000) : hs_send.pre [.own 1000000000 0, .int .i64 k, .int .i64 t, .int .i64 n] (w5 h next su co J ms rs rp X) = True := by
  simp only [hs_send, eq_iff_iff, iff_true]; exact ⟨k, t, n, h, next, su, co, J, ms, rs, rp, X, rfl, rfl, hJ, hm⟩

def hs_reply : HSp := {
  pre := fun ds ob => ∃ (k n ky v e : Int) (h : Hd) (next su co : Int) (J : Ob) (ms rs rp : List (List D)) (X : List (Nat × Ob)), ds = [.own 1000000000 0, .int .i64 k, .int .i64 n, .int .i64 ky, .int .i64 v, .int .i64 e] ∧ ob = w5 h next su co J ms rs rp X ∧ Jst J X ∧ rp.length ≤ 100000
  F := fun ds ob => match ds, ob with
    | [_, .int _ k, .int _ n, .int _ ky, .int _ v, .int _ e], (_, .box [s, l, p, lb, .int _ me, nx, _, _, _, _, su, co]) :: j :: m :: r :: (_, .row _ rp) :: X => (.tup [], (1000000000, .box [s, l, p, lb, .int .i64 me, nx, .row 1000000001, .row 1000000002, .row 1000000003, .row 0, su, co]) :: j :: m :: r :: (0, .row 6 (rp ++ [rpC ⟨me, k, n, ky, v, e⟩])) :: X)
    | _, _ => (.any, []) }
def sp_reply : Sp := { pre := fun _ => True, F := fun _ => .any, hx := some hs_reply }
theorem reply_F (k n ky v e : Int) (h : Hd) (next su co : Int) (J : Ob) (ms rs rp : List (List D)) (X : List (Nat × Ob)) : hs_reply.F [.own 1000000000 0, .int .i64 k, .int .i64 n, .int .i64 ky, .int .i64 v, .int .i64 e] (w5 h next su co J ms rs rp X) = (.tup [], (1000000000, wb h next 1000000001 1000000002 1000000003 0 su co) :: (1000000001, J) :: (1000000002, .row 12 ms) :: (1000000003, .row 8 rs) :: (0, .row 6 (rp ++ [rpC ⟨h.me, k, n, ky, v, e⟩])) :: X) := rfl
theorem reply_pre (k n ky v e : Int) (h : Hd) (next su co : Int) {J : Ob} (ms rs : List (List D)) {rp : List (List D)} {X : List (Nat × Ob)} (hJ : Jst J X) (hm : rp.length ≤ 100000) : hs_reply.pre [.own 1000000000 0, .int .i64 k, .int .i64 n, .int .i64 ky, .int .i64 v, .int .i64 e] (w5 h next su co J ms rs rp X) = True := by
  simp only [hs_reply, eq_iff_iff, iff_true]; exact ⟨k, n, ky, v, e, h, next, su, co, J, ms, rs, rp, X, rfl, rfl, hJ, hm⟩

section
variable {T : Tb}
attribute [local simp] k_seq k_block k_skip k_reg k_alt k_cond k_exit k_ret kf_nil kf_seq_n kf_seq_e kf_seq_r kf_blk_n kf_blk_e kf_blk_r kf_lp_n kf_lp_e kf_lp_r kf_cut_n kf_cut_e kf_cut_r mkTm VCops VCalt istep act gd applyE wrapD Opd.ev get_mk set_mk set_mk0 tget16 tset16 tget_0 tset_0 tget_1 tset_1 tget_2 tset_2 tget_3 tset_3 tget_4 tset_4 tget_5 tset_5 tget_6 tset_6 tget_7 tset_7 tget_8 tset_8 tget_9 tset_9 tget_10 tset_10 tget_11 tset_11 tget_12 tset_12 tget_13 tset_13 tget_14 tset_14 tget_15 tset_15 D.un D.gu gus IOp.opds binD fnPost getRes IRes.get oneRes D.out outL D.clos closL D.norow norowL D.lv lvL D.scal scalL D.cells D.cell D.cell' St.lk obPut obDel List.lookup cut pickD splice fillParts fillRows elem_cons newsOf D.pl D.forget forgetL Ob.forget forgetO eqCells sg leD leDL leOb apartK St.le D.keys keysL D.rows rowsL obKeys addKeys reach pos D.ren renL Ob.ren inM outM inObs outObs goneK apartN okNames_eq okNms obNms namesOK_nil namesOK_cons freeOK_nil freeOK_cons D.frz frzL Ob.frz frzO St.frz forgetLs dropObs putObs hcall freeOf keeps baseN shD isShift shMax k_bad VCopsG frz_nil actx actc cnum vwCut St.frzT St.opnT St.clsT D.opn opnL Ob.opn opnO VCou VCcx St.oneS D.objI D.objK scrL D.scr St.opnS St.clsS D.cellS D.fzs fzsL k_mrk k_mrq IOper.gh
set_option maxRecDepth 100000 in
set_option maxHeartbeats 8000000 in
theorem v_send : Verified T ir_coord_work_send sp_send := by
  refine Verified.mkx rfl ?_
  rintro ds ob ⟨k, t, n, h, next, su, co, J, ms, rs, rp, X, rfl, rfl, hJ, hm⟩ R hR
  rw [send_F] at hR
  have c1 : ((ms.length : Int) + 1 - 1) = (ms.length : Int) := by omega
  cases hJ
  all_goals
    simp only [wb, w5, msgC] at hR ⊢
    simp (implicitDefEqProofs := false) (maxSteps := 10000000) [ir_coord_work_send]
    refine ⟨by omega, ⟨by omega, by omega⟩, by omega, ?_⟩
    exact hR _ [(0, some 29)] (by simp (implicitDefEqProofs := false) (maxSteps := 10000000))
set_option maxRecDepth 100000 in
set_option maxHeartbeats 8000000 in
theorem v_reply : Verified T ir_coord_work_reply sp_reply := by
  refine Verified.mkx rfl ?_
  rintro ds ob ⟨k, n, ky, v, e, h, next, su, co, J, ms, rs, rp, X, rfl, rfl, hJ, hm⟩ R hR
  rw [reply_F] at hR
  cases hJ
  all_goals
    simp only [wb, w5, rpC] at hR ⊢
    simp (implicitDefEqProofs := false) (maxSteps := 10000000) [ir_coord_work_reply]
    refine ⟨by omega, ?_⟩
    exact hR _ [(0, some 29)] (by simp (implicitDefEqProofs := false) (maxSteps := 10000000))
end
end Go.Proofs.YtchbnpjegacobaaDoor
