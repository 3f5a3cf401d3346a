/-
  Facts on picked numbers and on writes, for the laws' walks. No conditions but those that each theorem names.
-/
import Derived.Test.YtghehknnaifoeaaDoorSt6
set_option linter.unusedVariables false
set_option linter.unusedSimpArgs false
namespace Go.Proofs.YtghehknnaifoeaaDoor
open Go Go.Vcg

theorem pk_pre {n m : Int} (h : inR .i64 n) (hm : 0 < m) : sp_picked.pre [.int .i64 n, .int .i64 m] = True := by
  simp only [sp_picked, eq_iff_iff, iff_true]; exact ⟨_, _, rfl, h, hm⟩
theorem pk_F (n m : Int) : sp_picked.F [.int .i64 n, .int .i64 m] = .int .i64 (pk n m) := rfl
theorem write_F (s : Sto) (t : Tx) (k v q : Int) : sp_Write.F [.agg (stoC s), .agg (txC t), .int .i64 k, .int .i64 v, .int .i64 q] = .tup [.agg (stoC (writeS s t k v q).1), .int .i64 (writeS s t k v q).2] := by
  have e : D.agg (stoC s) = stoD s := rfl
  simp only [sp_Write, e, stoOf_stoD, txOf_txC]
  rfl
theorem write_pre {s : Sto} (h : fewS' s) (t : Tx) (k v q : Int) : sp_Write.pre [.agg (stoC s), .agg (txC t), .int .i64 k, .int .i64 v, .int .i64 q] = True := by
  simp only [sp_Write, eq_iff_iff, iff_true]; exact ⟨s, t, k, v, q, rfl, h⟩
theorem okS_mk {s : Sto} (h1 : okItems s.items s.items.length) (h2 : okDoubts s s.doubts.length) (h3 : okOver s.over s.over.length) (h4 : okLocks s s.locks.length) (h5 : s.locks.length ≤ 24) : okS s = true := by
  simp only [okS, Bool.and_eq_true]
  exact ⟨⟨okItemsB_iff.2 h1, okDoubtsB_iff.2 ⟨h2, h3⟩⟩, okLocksB_iff.2 ⟨h4, h5⟩⟩
theorem okS_s0 : okS s0 = true := by
  refine okS_mk ?_ ?_ ?_ ?_ ?_ <;> simp [s0, okItems, okDoubts, okOver, okLocks]
end Go.Proofs.YtghehknnaifoeaaDoor
