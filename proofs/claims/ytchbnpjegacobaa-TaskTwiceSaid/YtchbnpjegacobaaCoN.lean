/-
  Turns at a coordinator: a site knows that a transaction is committed. Conditions: those of each specification's 'pre', and that the functions that are called are what theirs say.
-/
import Derived.Test.YtchbnpjegacobaaCoM
set_option linter.unusedVariables false
set_option linter.unusedSimpArgs false
namespace Go.Proofs.Ytchbnpjegacobaa
open Go Go.Vcg

def ackL (j : Jb) (m : Ms) : List Int := j.asked.filter fun x => !(decide (x = m.frm))
def ackWL (h : Hd) (w : Wd) (i : Nat) (j : Jb) (L : List Int) : Wd :=
  if L.isEmpty = true then ⟨w.next, w.su, w.co, delE w.js i, w.ms, w.rs ++ [recC ⟨4, h.me, j.n, 0, 0, 0, false, []⟩], w.rp⟩
  else ⟨w.next, w.su, w.co, w.js.set i ⟨j.n, j.state, j.tasks, L, j.asks, j.age⟩, w.ms, w.rs, w.rp⟩
def ackW (h : Hd) (w : Wd) (i : Nat) (m : Ms) : Wd := if (jAt w.js i).state = 3 then ackWL h w i (jAt w.js i) (ackL (jAt w.js i) m) else w
def fAck (h : Hd) (w : Wd) (av : List D) : D × Wd := match av with | [.int _ p, .agg m] => (.tup [], ackW h w p.toNat (msgL m)) | _ => (.any, w)
def preAck (h : Hd) (w : Wd) (av : List D) : Prop := ∃ (i : Nat) (m : Ms), av = [.int .i64 i, .agg (msgC m)] ∧ i < w.js.length ∧ okTs (jAt w.js i) ∧ fewW h w
def sp_acked : Sp := spW preAck fAck
theorem delE_set {α : Type} (l : List α) (i : Nat) (x : α) : delE (l.set i x) i = delE l i := by
  simp only [delE]
  rw [List.take_set_of_le (Nat.le_refl _), List.drop_set_of_lt (by omega)]

section
variable {T : Tb}
attribute [local simp] k_seq k_block k_skip k_reg k_alt k_cond k_exit k_ret kf_nil kf_seq_n kf_seq_e kf_seq_r kf_blk_n kf_blk_e kf_blk_r kf_lp_n kf_lp_e kf_lp_r kf_cut_n kf_cut_e kf_cut_r mkTm VCops VCalt istep act gd applyE wrapD Opd.ev get_mk set_mk set_mk0 tget16 tset16 tget_0 tset_0 tget_1 tset_1 tget_2 tset_2 tget_3 tset_3 tget_4 tset_4 tget_5 tset_5 tget_6 tset_6 tget_7 tset_7 tget_8 tset_8 tget_9 tset_9 tget_10 tset_10 tget_11 tset_11 tget_12 tset_12 tget_13 tset_13 tget_14 tset_14 tget_15 tset_15 D.un D.gu gus IOp.opds binD fnPost getRes IRes.get oneRes D.out outL D.clos closL D.norow norowL D.lv lvL D.scal scalL D.cells D.cell D.cell' St.lk obPut obDel List.lookup cut pickD splice fillParts fillRows elem_cons newsOf D.pl D.forget forgetL Ob.forget forgetO eqCells sg leD leDL leOb apartK St.le D.keys keysL D.rows rowsL obKeys addKeys reach pos D.ren renL Ob.ren inM outM inObs outObs goneK apartN okNames_eq okNms obNms namesOK_nil namesOK_cons freeOK_nil freeOK_cons D.frz frzL Ob.frz frzO St.frz forgetLs dropObs putObs hcall freeOf keeps baseN shD isShift shMax k_bad VCopsG frz_nil actx actc cnum vwCut St.frzT St.opnT St.clsT D.opn opnL Ob.opn opnO VCou VCcx St.oneS D.objI D.objK scrL D.scr St.opnS St.clsS D.cellS D.fzs fzsL k_mrk k_mrq IOper.gh
end
end Go.Proofs.Ytchbnpjegacobaa
