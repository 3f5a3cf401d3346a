/-
  Turns at a coordinator: why a call may not be; a site that asks what is to become of a transaction; a site that knows. Conditions: those of each specification's 'pre', and that the functions that are called are what theirs say.
-/
import Derived.Test.YtchbnpjegacobaaCoL
set_option linter.unusedVariables false
set_option linter.unusedSimpArgs false
namespace Go.Proofs.Ytchbnpjegacobaa
open Go Go.Vcg

/-- Where a job with this number stands, as an index. -/
def askdW (h : Hd) (w : Wd) (p : Int) (m : Ms) : Wd :=
  if p < 0 then ⟨w.next, w.su, w.co, w.js, w.ms ++ [endC h.me m.n m.frm], w.rs, w.rp⟩
  else if (jAt w.js p.toNat).state = 3 ∧ m.frm ∈ (jAt w.js p.toNat).asked then ⟨w.next, w.su, w.co, w.js, w.ms ++ [tellC h.me (jAt w.js p.toNat).n m.frm], w.rs, w.rp⟩
  else w
def fAskd (h : Hd) (w : Wd) (av : List D) : D × Wd := match av with | [.int _ p, .agg m] => (.tup [], askdW h w p (msgL m)) | _ => (.any, w)
def preAskd (h : Hd) (w : Wd) (av : List D) : Prop := ∃ (p : Int) (m : Ms), av = [.int .i64 p, .agg (msgC m)] ∧ p < w.js.length ∧ (0 ≤ p → okTs (jAt w.js p.toNat)) ∧ fewW h w
def sp_asked : Sp := spW preAskd fAskd

section
variable {T : Tb}
attribute [local simp] k_seq k_block k_skip k_reg k_alt k_cond k_exit k_ret kf_nil kf_seq_n kf_seq_e kf_seq_r kf_blk_n kf_blk_e kf_blk_r kf_lp_n kf_lp_e kf_lp_r kf_cut_n kf_cut_e kf_cut_r mkTm VCops VCalt istep act gd applyE wrapD Opd.ev get_mk set_mk set_mk0 tget16 tset16 tget_0 tset_0 tget_1 tset_1 tget_2 tset_2 tget_3 tset_3 tget_4 tset_4 tget_5 tset_5 tget_6 tset_6 tget_7 tset_7 tget_8 tset_8 tget_9 tset_9 tget_10 tset_10 tget_11 tset_11 tget_12 tset_12 tget_13 tset_13 tget_14 tset_14 tget_15 tset_15 D.un D.gu gus IOp.opds binD fnPost getRes IRes.get oneRes D.out outL D.clos closL D.norow norowL D.lv lvL D.scal scalL D.cells D.cell D.cell' St.lk obPut obDel List.lookup cut pickD splice fillParts fillRows elem_cons newsOf D.pl D.forget forgetL Ob.forget forgetO eqCells sg leD leDL leOb apartK St.le D.keys keysL D.rows rowsL obKeys addKeys reach pos D.ren renL Ob.ren inM outM inObs outObs goneK apartN okNames_eq okNms obNms namesOK_nil namesOK_cons freeOK_nil freeOK_cons D.frz frzL Ob.frz frzO St.frz forgetLs dropObs putObs hcall freeOf keeps baseN shD isShift shMax k_bad VCopsG frz_nil actx actc cnum vwCut St.frzT St.opnT St.clsT D.opn opnL Ob.opn opnO VCou VCcx St.oneS D.objI D.objK scrL D.scr St.opnS St.clsS D.cellS D.fzs fzsL k_mrk k_mrq IOper.gh
end
end Go.Proofs.Ytchbnpjegacobaa
