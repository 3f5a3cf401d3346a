/-
  store.Peek and store.Still compute what the plain functions beside them say. Conditions: those of each specification's 'pre', and that the functions that are called are what theirs say.
-/
import Derived.Test.YtghehknnaifoeaaDoorStD
set_option linter.unusedVariables false
set_option linter.unusedSimpArgs false
namespace Go.Proofs.YtghehknnaifoeaaDoor
open Go Go.Vcg

noncomputable def peekS (s : Sto) (k : Int) : Int × Int × Int :=
  if callE s (0, 1) k ≠ 0 then (0, 0, callE s (0, 1) k)
  else if busyB s (0, 0) k false = true then (0, 0, 11)
  else ((itemAt s.items k).value, (itemAt s.items k).version, 0)
noncomputable def stillS (s : Sto) (t : Tx) (k n : Int) : Bool × Int :=
  if callE s t k ≠ 0 then (false, callE s t k) else (decide (0 ≤ lockI s t k) && decide ((itemAt s.items k).version = n), 0)
noncomputable def sp_Peek : Sp := { pre := fun ds => ∃ (s : Sto) (k : Int), ds = [stoD s, .int .i64 k] ∧ fewS' s, F := fun | [s, .int _ k] => .tup [.int .i64 (peekS (stoOf s) k).1, .int .i64 (peekS (stoOf s) k).2.1, .int .i64 (peekS (stoOf s) k).2.2] | _ => .any }
noncomputable def sp_Still : Sp := { pre := fun ds => ∃ (s : Sto) (t : Tx) (k n : Int), ds = [stoD s, .agg (txC t), .int .i64 k, .int .i64 n] ∧ fewS' s, F := fun | [s, .agg t, .int _ k, .int _ n] => .tup [.bool (stillS (stoOf s) (txOf t) k n).1, .int .i64 (stillS (stoOf s) (txOf t) k n).2] | _ => .any }
theorem peek_F (s : Sto) (k : Int) : sp_Peek.F [.agg (stoC s), .int .i64 k] = .tup [.int .i64 (peekS s k).1, .int .i64 (peekS s k).2.1, .int .i64 (peekS s k).2.2] := by
  have e : D.agg (stoC s) = stoD s := rfl
  simp only [sp_Peek, e, stoOf_stoD]
theorem peek_pre {s : Sto} (h : fewS' s) (k : Int) : sp_Peek.pre [.agg (stoC s), .int .i64 k] = True := by
  simp only [sp_Peek, eq_iff_iff, iff_true]; exact ⟨s, k, rfl, h⟩
theorem still_F (s : Sto) (t : Tx) (k n : Int) : sp_Still.F [.agg (stoC s), .agg (txC t), .int .i64 k, .int .i64 n] = .tup [.bool (stillS s t k n).1, .int .i64 (stillS s t k n).2] := by
  have e : D.agg (stoC s) = stoD s := rfl
  simp only [sp_Still, e, stoOf_stoD, txOf_txC]
theorem still_pre {s : Sto} (h : fewS' s) (t : Tx) (k n : Int) : sp_Still.pre [.agg (stoC s), .agg (txC t), .int .i64 k, .int .i64 n] = True := by
  simp only [sp_Still, eq_iff_iff, iff_true]; exact ⟨s, t, k, n, rfl, h⟩

section
variable {T : Tb}
attribute [local simp] k_seq k_block k_skip k_reg k_alt k_cond k_exit k_ret kf_nil kf_seq_n kf_seq_e kf_seq_r kf_blk_n kf_blk_e kf_blk_r kf_lp_n kf_lp_e kf_lp_r kf_cut_n kf_cut_e kf_cut_r mkTm VCops VCalt istep act gd applyE wrapD Opd.ev get_mk set_mk set_mk0 tget16 tset16 tget_0 tset_0 tget_1 tset_1 tget_2 tset_2 tget_3 tset_3 tget_4 tset_4 tget_5 tset_5 tget_6 tset_6 tget_7 tset_7 tget_8 tset_8 tget_9 tset_9 tget_10 tset_10 tget_11 tset_11 tget_12 tset_12 tget_13 tset_13 tget_14 tset_14 tget_15 tset_15 D.un D.gu gus IOp.opds binD fnPost getRes IRes.get oneRes D.out outL D.clos closL D.norow norowL D.lv lvL D.scal scalL D.cells D.cell D.cell' St.lk obPut obDel List.lookup cut pickD splice fillParts fillRows elem_cons newsOf D.pl D.forget forgetL Ob.forget forgetO eqCells sg leD leDL leOb apartK St.le D.keys keysL D.rows rowsL obKeys addKeys reach pos D.ren renL Ob.ren inM outM inObs outObs goneK apartN okNames_eq okNms obNms namesOK_nil namesOK_cons freeOK_nil freeOK_cons D.frz frzL Ob.frz frzO St.frz forgetLs dropObs putObs hcall freeOf keeps baseN shD isShift shMax k_bad VCopsG frz_nil actx actc cnum vwCut St.frzT St.opnT St.clsT D.opn opnL Ob.opn opnO VCou VCcx St.oneS D.objI D.objK scrL D.scr St.opnS St.clsS D.cellS D.fzs fzsL k_mrk k_mrq IOper.gh
end
end Go.Proofs.YtghehknnaifoeaaDoor
