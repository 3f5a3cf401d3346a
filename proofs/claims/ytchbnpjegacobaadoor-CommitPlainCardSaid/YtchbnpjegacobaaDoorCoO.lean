/-
  Turns at a coordinator: why a call may not be; what an answer, a check and a job's age do (their meaning). Conditions: those of each specification's 'pre', and that the functions that are called are what theirs say.
-/
import Derived.Test.YtchbnpjegacobaaDoorCoN
set_option linter.unusedVariables false
set_option linter.unusedSimpArgs false
namespace Go.Proofs.YtchbnpjegacobaaDoor
open Go Go.Vcg

def above (a b : Int × Int) : Bool := decide (b.1 ≤ a.1) && (bitsI .and .i64 a.2 b.2 == b.2)
def sp_Above : Sp := { pre := fun ds => ∃ a b, ds = [lb a, lb b], F := fun | [x, y] => .bool (above (lbOf x) (lbOf y)) | _ => .any }
theorem above_F (p q : Int × Int) : sp_Above.F [.agg (lbc p), .agg (lbc q)] = .bool (above p q) := rfl
theorem above_pre (p q : Int × Int) : sp_Above.pre [.agg (lbc p), .agg (lbc q)] = True := by
  simp only [sp_Above, eq_iff_iff, iff_true]; exact ⟨p, q, rfl⟩
/-- What a client asks for. -/
structure Cl where
  (kind n label key value : Int)
def clC (x : Cl) : List D := [.int .i64 x.kind, .int .i64 x.n, .int .i64 x.label, .int .i64 x.key, .int .i64 x.value]
def clOf : List D → Cl
  | [.int _ a, .int _ b, .int _ c, .int _ d, .int _ e] => ⟨a, b, c, d, e⟩
  | _ => ⟨0, 0, 0, 0, 0⟩
theorem clOf_clC (x : Cl) : clOf (clC x) = x := rfl
def tkLast (j : Jb) : Tk := j.tasks.getD (j.tasks.length - 1) tk0
def lbAt (h : Hd) (i : Int) : Int × Int := h.ls.getD i.toNat (0, 0)
/-- One waits for a task. -/
def waits (j : Jb) : Prop := 0 < j.tasks.length ∧ (tkLast j).done = false
instance (j : Jb) : Decidable (waits j) := by unfold waits; exact inferInstance
def badR (x : Cl) : Prop := x.key < 0 ∨ 8 ≤ x.key ∨ x.value < 0 ∨ 1073741824 < x.value
instance (x : Cl) : Decidable (badR x) := by unfold badR; exact inferInstance
def badL (h : Hd) (x : Cl) : Prop := x.kind = 2 ∧ (x.label < 0 ∨ (h.ls.length : Int) ≤ x.label ∨ above (lbAt h h.l) (lbAt h x.label) = false)
instance (h : Hd) (x : Cl) : Decidable (badL h x) := by unfold badL; exact inferInstance
def refJ (h : Hd) (j : Jb) (x : Cl) : Int :=
  if j.state = 1 then
    if waits j then 14
    else if x.kind = 2 ∨ x.kind = 3 then
      if badR x then 2 else if badL h x then 10 else if j.tasks.length = 10 ∨ j.asks = 1048576 then 8 else 0
    else 0
  else 13
def refP (h : Hd) (js : List Jb) (p : Int) (x : Cl) : Int := if p < 0 then 6 else refJ h (jAt js p.toNat) x
def refE (h : Hd) (js : List Jb) (x : Cl) : Int := refP h js (placeJ js x.n) x
def fRef (h : Hd) (w : Wd) (av : List D) : D × Wd := match av with | [.agg x] => (.int .i64 (refE h w.js (clOf x)), w) | _ => (.any, w)
def preRef (h : Hd) (w : Wd) (av : List D) : Prop := ∃ x : Cl, av = [.agg (clC x)] ∧ (∀ i : Nat, i < w.js.length → okTs (jAt w.js i)) ∧ fewW h w ∧ 0 ≤ h.l ∧ h.l < h.ls.length
def sp_refuse : Sp := spW preRef fRef
theorem placeJ_b (js : List Jb) (k : Int) : -1 ≤ placeJ js k ∧ placeJ js k < js.length := idxOf_bounds _ _

def lateP (j : Jb) : List (Int × Int × Int) := if waits j then [((if (tkLast j).wr = true then 3 else 2), (tkLast j).key, 0)] else []
noncomputable def lateW (h : Hd) (w : Wd) (i : Nat) (j : Jb) : Wd :=
  if j.state = 3 then ⟨w.next, w.su, w.co, w.js.set i ⟨j.n, j.state, j.tasks, j.asked, j.asks, 0⟩, w.ms ++ j.asked.map (tellC h.me j.n), w.rs, w.rp⟩
  else if j.state = 2 then ⟨w.next, w.su, w.co, delE w.js i, w.ms ++ (cmS h j).map (endC h.me j.n), w.rs, w.rp ++ [rpC ⟨h.me, 4, j.n, 0, 0, 14⟩]⟩
  else if waits j then ⟨w.next, w.su, w.co, delE w.js i, w.ms ++ (cmS h j).map (endC h.me j.n), w.rs, w.rp ++ [rpC ⟨h.me, if (tkLast j).wr = true then 3 else 2, j.n, (tkLast j).key, 0, 14⟩]⟩
  else ⟨w.next, w.su, w.co, delE w.js i, w.ms ++ (cmS h j).map (endC h.me j.n), w.rs, w.rp⟩
noncomputable def fLate (h : Hd) (w : Wd) (av : List D) : D × Wd := match av with | [.int _ i] => (.tup [], lateW h w i.toNat (jAt w.js i.toNat)) | _ => (.any, w)
noncomputable def sp_late : Sp := spW preAt fLate

/-- Is this the answer that one waits for? -/
def ansOk (S : Int) (j : Jb) (m : Ms) (wr : Bool) : Prop := 0 < j.tasks.length ∧ (tkLast j).done = false ∧ (tkLast j).ask = m.ask ∧ (tkLast j).wr = wr ∧ (tkLast j).key = m.key ∧ (wr = false → (tkLast j).label = m.label) ∧ m.frm = (tkLast j).key.tmod S
instance (S : Int) (j : Jb) (m : Ms) (wr : Bool) : Decidable (ansOk S j m wr) := by unfold ansOk; exact inferInstance
/-- A task that is done. -/
def ansT (t : Tk) (m : Ms) (wr : Bool) : Tk := ⟨t.wr, t.label, t.key, if wr = true then t.value else m.value, if wr = true then t.version else m.version, t.ask, true, t.sure⟩
noncomputable def ansW (h : Hd) (w : Wd) (i : Nat) (j : Jb) (m : Ms) (wr : Bool) : Wd :=
  if ansOk h.S j m wr then
    if m.code = 0 then ⟨w.next, w.su, w.co, w.js.set i ⟨j.n, j.state, j.tasks.set (j.tasks.length - 1) (ansT (tkLast j) m wr), j.asked, j.asks, 0⟩, w.ms, w.rs, w.rp ++ [rpC ⟨h.me, if wr = true then 3 else 2, j.n, m.key, m.value, m.code⟩]⟩
    else if wr = true then ⟨w.next, w.su, w.co, delE w.js i, w.ms ++ (cmS h j).map (endC h.me j.n), w.rs, w.rp ++ [rpC ⟨h.me, 3, j.n, m.key, m.value, m.code⟩]⟩
    else ⟨w.next, w.su, w.co, w.js.set i ⟨j.n, j.state, j.tasks.take (j.tasks.length - 1), j.asked, j.asks, 0⟩, w.ms, w.rs, w.rp ++ [rpC ⟨h.me, 2, j.n, m.key, m.value, m.code⟩]⟩
  else w
noncomputable def fAns (h : Hd) (w : Wd) (av : List D) : D × Wd := match av with | [.int _ i, .agg m, .bool wr] => (.tup [], ansW h w i.toNat (jAt w.js i.toNat) (msgL m) wr) | _ => (.any, w)
def preAns (h : Hd) (w : Wd) (av : List D) : Prop := ∃ (i : Nat) (m : Ms) (wr : Bool), av = [.int .i64 i, .agg (msgC m), .bool wr] ∧ i < w.js.length ∧ okTs (jAt w.js i) ∧ fewW h w
noncomputable def sp_answered : Sp := spW preAns fAns

/-- The answer is about this read. -/
def surB (m : Ms) (t : Tk) : Bool := !t.wr && decide (t.label = m.label) && decide (t.key = m.key) && decide (t.version = m.version)
def surT (m : Ms) (t : Tk) : Tk := if surB m t = true then ⟨t.wr, t.label, t.key, t.value, t.version, t.ask, t.done, t.sure || m.yes⟩ else t
def surJ (j : Jb) (m : Ms) : Jb := ⟨j.n, j.state, j.tasks.map (surT m), j.asked, j.asks, j.age⟩
noncomputable def sureW (h : Hd) (w : Wd) (i : Nat) (j : Jb) (m : Ms) : Wd :=
  if j.state = 2 ∧ m.frm = m.key.tmod h.S then
    if j.tasks.any (surB m) = true then
      if m.yes = true then
        if (surJ j m).tasks.any agnB = true then ⟨w.next, w.su, w.co, w.js.set i (surJ j m), w.ms, w.rs, w.rp⟩
        else comW h ⟨w.next, w.su, w.co, w.js.set i (surJ j m), w.ms, w.rs, w.rp⟩ i
      else endW h ⟨w.next, w.su, w.co, w.js.set i (surJ j m), w.ms, w.rs, w.rp ++ [rpC ⟨h.me, 4, j.n, 0, 0, 11⟩]⟩ i
    else ⟨w.next, w.su, w.co, w.js.set i (surJ j m), w.ms, w.rs, w.rp⟩
  else w
noncomputable def fSure (h : Hd) (w : Wd) (av : List D) : D × Wd := match av with | [.int _ i, .agg m] => (.tup [], sureW h w i.toNat (jAt w.js i.toNat) (msgL m)) | _ => (.any, w)
noncomputable def sp_sure : Sp := spW preAck fSure

section
variable {T : Tb}
attribute [local simp] k_seq k_block k_skip k_reg k_alt k_cond k_exit k_ret kf_nil kf_seq_n kf_seq_e kf_seq_r kf_blk_n kf_blk_e kf_blk_r kf_lp_n kf_lp_e kf_lp_r kf_cut_n kf_cut_e kf_cut_r mkTm VCops VCalt istep act gd applyE wrapD Opd.ev get_mk set_mk set_mk0 tget16 tset16 tget_0 tset_0 tget_1 tset_1 tget_2 tset_2 tget_3 tset_3 tget_4 tset_4 tget_5 tset_5 tget_6 tset_6 tget_7 tset_7 tget_8 tset_8 tget_9 tset_9 tget_10 tset_10 tget_11 tset_11 tget_12 tset_12 tget_13 tset_13 tget_14 tset_14 tget_15 tset_15 D.un D.gu gus IOp.opds binD fnPost getRes IRes.get oneRes D.out outL D.clos closL D.norow norowL D.lv lvL D.scal scalL D.cells D.cell D.cell' St.lk obPut obDel List.lookup cut pickD splice fillParts fillRows elem_cons newsOf D.pl D.forget forgetL Ob.forget forgetO eqCells sg leD leDL leOb apartK St.le D.keys keysL D.rows rowsL obKeys addKeys reach pos D.ren renL Ob.ren inM outM inObs outObs goneK apartN okNames_eq okNms obNms namesOK_nil namesOK_cons freeOK_nil freeOK_cons D.frz frzL Ob.frz frzO St.frz forgetLs dropObs putObs hcall freeOf keeps baseN shD isShift shMax k_bad VCopsG frz_nil actx actc cnum vwCut St.frzT St.opnT St.clsT D.opn opnL Ob.opn opnO VCou VCcx St.oneS D.objI D.objK scrL D.scr St.opnS St.clsS D.cellS D.fzs fzsL k_mrk k_mrq IOper.gh
theorem v_above : Verified T ir_label_Above sp_Above := by
  refine Verified.mk ?_
  rintro ds ⟨⟨a, b⟩, ⟨c, d⟩, rfl⟩
  simp [ir_label_Above, sp_Above, lb, lbOf, above]
  rfl
end
end Go.Proofs.YtchbnpjegacobaaDoor
