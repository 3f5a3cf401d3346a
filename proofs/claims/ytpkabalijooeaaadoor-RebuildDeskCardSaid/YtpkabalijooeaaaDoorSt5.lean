/-
  Stores: Read computes what the plain function beside it says. Conditions: those of its specification's 'pre', and that the functions that are called are what theirs say.
-/
import Derived.Test.YtpkabalijooeaaaDoorSt4
set_option linter.unusedVariables false
set_option linter.unusedSimpArgs false
namespace Go.Proofs.YtpkabalijooeaaaDoor
open Go Go.Vcg

def s0 : Sto := ⟨[], [], [], []⟩
def overB (s : Sto) (t : Tx) : Bool := s.over.any fun u => isTx u.1 u.2 t
/-- The lock that was found. -/
def lockAt (s : Sto) (i : Int) : Lk := s.locks.getD i.toNat lk0
noncomputable def readS (s : Sto) (t : Tx) (k : Int) : Sto × Int × Int × Int :=
  if callE s t k ≠ 0 then (s0, 0, 0, callE s t k)
  else if 0 ≤ lockI s t k then (if (lockAt s (lockI s t k)).wr = true then (s, (lockAt s (lockI s t k)).value, (itemAt s.items k).version, 0) else (s, (itemAt s.items k).value, (itemAt s.items k).version, 0))
  else if overB s t = true then (s0, 0, 0, 13)
  else if busyB s t k false = true then (s0, 0, 0, 11)
  else if s.locks.length = 24 then (s0, 0, 0, 8)
  else ({ s with locks := s.locks ++ [⟨t.1, t.2, k, false, 0, 0⟩], doubts := handD s.doubts t }, (itemAt s.items k).value, (itemAt s.items k).version, 0)
/-- Not too much of anything to go on with. -/
def fewS' (s : Sto) : Prop := s.items.length ≤ 10000 ∧ s.locks.length ≤ 10000 ∧ s.doubts.length ≤ 10000 ∧ s.over.length ≤ 10000
theorem fewS'_fewS {s : Sto} (h : fewS' s) : fewS s := by
  obtain ⟨h1, h2, h3, h4⟩ := h
  exact ⟨by omega, by omega, by omega, by omega⟩
noncomputable def sp_Read : Sp := { pre := fun ds => ∃ (s : Sto) (t : Tx) (k : Int), ds = [stoD s, .agg (txC t), .int .i64 k] ∧ fewS' s, F := fun | [s, .agg t, .int _ k] => .tup [stoD (readS (stoOf s) (txOf t) k).1, .int .i64 (readS (stoOf s) (txOf t) k).2.1, .int .i64 (readS (stoOf s) (txOf t) k).2.2.1, .int .i64 (readS (stoOf s) (txOf t) k).2.2.2] | _ => .any }

theorem lock_F (s : Sto) (t : Tx) (k : Int) : sp_lock.F [.agg (stoC s), .agg (txC t), .int .i64 k] = .int .i64 (lockI s t k) := by
  have e : D.agg (stoC s) = stoD s := rfl
  simp only [sp_lock, e, stoOf_stoD, txOf_txC]
theorem lock_pre {s : Sto} (h : fewS s) (t : Tx) (k : Int) : sp_lock.pre [.agg (stoC s), .agg (txC t), .int .i64 k] = True := by
  simp only [sp_lock, eq_iff_iff, iff_true]; exact ⟨s, t, k, rfl, h⟩
theorem busy_F (s : Sto) (t : Tx) (k : Int) (a : Bool) : sp_busy.F [.agg (stoC s), .agg (txC t), .int .i64 k, .bool a] = .bool (busyB s t k a) := by
  have e : D.agg (stoC s) = stoD s := rfl
  simp only [sp_busy, e, stoOf_stoD, txOf_txC]
theorem busy_pre {s : Sto} (h : fewS s) (t : Tx) (k : Int) (a : Bool) : sp_busy.pre [.agg (stoC s), .agg (txC t), .int .i64 k, .bool a] = True := by
  simp only [sp_busy, eq_iff_iff, iff_true]; exact ⟨s, t, k, a, rfl, h⟩
theorem item_F (s : Sto) (k : Int) : sp_item.F [.agg (stoC s), .int .i64 k] = .agg (itC (itemAt s.items k)) := by
  have e : D.agg (stoC s) = stoD s := rfl
  simp only [sp_item, e, stoOf_stoD]
theorem item_pre {s : Sto} (h : fewS s) (hs : sortK s.items) (k : Int) : sp_item.pre [.agg (stoC s), .int .i64 k] = True := by
  simp only [sp_item, eq_iff_iff, iff_true]; exact ⟨s, k, rfl, hs, h⟩
theorem callE_zero {s : Sto} {t : Tx} {k : Int} (h : callE s t k = 0) : okS s = true ∧ okTx t.1 t.2 = true ∧ 0 ≤ k ∧ k < 8 := by
  unfold callE at h
  split at h
  · rename_i h1
    split at h
    · rename_i h2; exact ⟨h1, h2⟩
    · cases h
  · cases h
theorem okS_parts {s : Sto} (h : okS s = true) : okItems s.items s.items.length ∧ (okDoubts s s.doubts.length ∧ okOver s.over s.over.length) ∧ okLocks s s.locks.length ∧ s.locks.length ≤ 24 := by
  simp only [okS, Bool.and_eq_true] at h
  exact ⟨okItemsB_iff.1 h.1.1, okDoubtsB_iff.1 h.1.2, okLocksB_iff.1 h.2⟩
theorem lockI_bounds (s : Sto) (t : Tx) (k : Int) : -1 ≤ lockI s t k ∧ lockI s t k < s.locks.length := idxOf_bounds _ _

section
variable {T : Tb}
attribute [local simp] k_seq k_block k_skip k_reg k_alt k_cond k_exit k_ret kf_nil kf_seq_n kf_seq_e kf_seq_r kf_blk_n kf_blk_e kf_blk_r kf_lp_n kf_lp_e kf_lp_r kf_cut_n kf_cut_e kf_cut_r mkTm VCops VCalt istep act gd applyE wrapD Opd.ev get_mk set_mk set_mk0 tget16 tset16 tget_0 tset_0 tget_1 tset_1 tget_2 tset_2 tget_3 tset_3 tget_4 tset_4 tget_5 tset_5 tget_6 tset_6 tget_7 tset_7 tget_8 tset_8 tget_9 tset_9 tget_10 tset_10 tget_11 tset_11 tget_12 tset_12 tget_13 tset_13 tget_14 tset_14 tget_15 tset_15 D.un D.gu gus IOp.opds binD fnPost getRes IRes.get oneRes D.out outL D.clos closL D.norow norowL D.lv lvL D.scal scalL D.cells D.cell D.cell' St.lk obPut obDel List.lookup cut pickD splice fillParts fillRows elem_cons newsOf D.pl D.forget forgetL Ob.forget forgetO eqCells sg leD leDL leOb apartK St.le D.keys keysL D.rows rowsL obKeys addKeys reach pos D.ren renL Ob.ren inM outM inObs outObs goneK apartN okNames_eq okNms obNms namesOK_nil namesOK_cons freeOK_nil freeOK_cons D.frz frzL Ob.frz frzO St.frz forgetLs dropObs putObs hcall freeOf keeps baseN shD isShift shMax k_bad VCopsG frz_nil actx actc cnum vwCut St.frzT St.opnT St.clsT D.opn opnL Ob.opn opnO
end
end Go.Proofs.YtpkabalijooeaaaDoor
