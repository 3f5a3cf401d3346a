/-
  A command is read: console.Read. Conditions: those of its specification's 'pre', and that the functions that are called are what theirs say.
-/
import Derived.Test.YtgmegekboglgdaaDoorCs1
set_option linter.unusedVariables false
set_option linter.unusedSimpArgs false
namespace Go.Proofs.YtgmegekboglgdaaDoor
open Go Go.Vcg

structure Cm where
  (kind label site n : Int) (yes : Bool)
def cmC (x : Cm) : List D := [.int .i64 x.kind, .int .i64 x.label, .int .i64 x.site, .int .i64 x.n, .bool x.yes]
def cm0 : Cm := ⟨0, 0, 0, 0, false⟩
def wList : List UInt8 := [108, 105, 115, 116]
def wAudit : List UInt8 := [97, 117, 100, 105, 116]
def wStatus : List UInt8 := [115, 116, 97, 116, 117, 115]
def wForce : List UInt8 := [102, 111, 114, 99, 101]
def wCommit : List UInt8 := [99, 111, 109, 109, 105, 116]
def wAbort : List UInt8 := [97, 98, 111, 114, 116]
def finT (x : Cm) (ws : List (List UInt8)) (b : Bool) : Cm × Int := if b = true ∨ ws ≠ [] then (cm0, 4) else (x, 0)
def yesB (w : List UInt8) (b : Bool) : Bool := b || (w != wCommit && w != wAbort)
def num3 (ws : List (List UInt8)) (b : Bool) : Int × Int × Int × List (List UInt8) × Bool :=
  ((numW 5 ws b).1, (numW 3 (numW 5 ws b).2.1 (numW 5 ws b).2.2).1, numW 1048576 (numW 3 (numW 5 ws b).2.1 (numW 5 ws b).2.2).2.1 (numW 3 (numW 5 ws b).2.1 (numW 5 ws b).2.2).2.2)
def cmdT (w : List UInt8) (ws : List (List UInt8)) (b : Bool) : Cm × Int :=
  if w = wList then finT ⟨1, 0, 0, 0, false⟩ ws b
  else if w = wAudit then finT ⟨4, 0, 0, 0, false⟩ ws b
  else if w = wStatus then finT ⟨2, (num3 ws b).1, (num3 ws b).2.1, (num3 ws b).2.2.1, false⟩ (num3 ws b).2.2.2.1 (num3 ws b).2.2.2.2
  else if w = wForce then finT ⟨3, (num3 ws b).1, (num3 ws b).2.1, (num3 ws b).2.2.1, decide ((nxtW (num3 ws b).2.2.2.1 (num3 ws b).2.2.2.2).1 = wCommit)⟩ (nxtW (num3 ws b).2.2.2.1 (num3 ws b).2.2.2.2).2.1 (yesB (nxtW (num3 ws b).2.2.2.1 (num3 ws b).2.2.2.2).1 (nxtW (num3 ws b).2.2.2.1 (num3 ws b).2.2.2.2).2.2)
  else (cm0, 4)
def readT (s : List UInt8) : Cm × Int :=
  if 60 < s.length then (cm0, 1) else cmdT (nxtW (Lib.split s [32]) false).1 (nxtW (Lib.split s [32]) false).2.1 (nxtW (Lib.split s [32]) false).2.2
def sp_Read : Sp := { pre := fun ds => ∃ s : List UInt8, ds = [.str s] ∧ s.length ≤ 9223372036854775807, F := fun | [.str s] => .tup [.agg (cmC (readT s).1), .int .i64 (readT s).2] | _ => .any }
theorem read_F (s : List UInt8) : sp_Read.F [.str s] = .tup [.agg (cmC (readT s).1), .int .i64 (readT s).2] := rfl
theorem read_pre {s : List UInt8} (h : s.length ≤ 9223372036854775807) : sp_Read.pre [.str s] = True := by
  simp only [sp_Read, eq_iff_iff, iff_true]; exact ⟨s, rfl, h⟩
theorem splitK_len (c : List UInt8) : ∀ (k : Nat) (s : List UInt8), ∀ w ∈ Lib.splitK c 0 k s, w.length ≤ s.length
  | 0, s, w, h => by simp only [Lib.splitK, List.mem_singleton] at h; subst h; exact Nat.le_refl _
  | k + 1, s, w, h => by
    simp only [Lib.splitK] at h
    split at h
    · simp only [List.mem_singleton] at h; subst h; exact Nat.le_refl _
    · rcases List.mem_cons.1 h with rfl | h
      · rw [List.length_take]; omega
      · have := splitK_len c k _ w h
        rw [List.length_drop] at this
        omega
theorem split_len (s c w : List UInt8) (h : w ∈ Lib.split s c) : w.length ≤ s.length := splitK_len c _ s w h

section
variable {T : Tb}
attribute [local simp] k_seq k_block k_skip k_reg k_alt k_cond k_exit k_ret kf_nil kf_seq_n kf_seq_e kf_seq_r kf_blk_n kf_blk_e kf_blk_r kf_lp_n kf_lp_e kf_lp_r kf_cut_n kf_cut_e kf_cut_r mkTm VCops VCalt istep act gd applyE wrapD Opd.ev get_mk set_mk set_mk0 tget16 tset16 tget_0 tset_0 tget_1 tset_1 tget_2 tset_2 tget_3 tset_3 tget_4 tset_4 tget_5 tset_5 tget_6 tset_6 tget_7 tset_7 tget_8 tset_8 tget_9 tset_9 tget_10 tset_10 tget_11 tset_11 tget_12 tset_12 tget_13 tset_13 tget_14 tset_14 tget_15 tset_15 D.un D.gu gus IOp.opds binD fnPost getRes IRes.get oneRes D.out outL D.clos closL D.norow norowL D.lv lvL D.scal scalL D.cells D.cell D.cell' St.lk obPut obDel List.lookup cut pickD splice fillParts fillRows elem_cons newsOf D.pl D.forget forgetL Ob.forget forgetO eqCells sg leD leDL leOb apartK St.le D.keys keysL D.rows rowsL obKeys addKeys reach pos D.ren renL Ob.ren inM outM inObs outObs goneK apartN okNames_eq okNms obNms namesOK_nil namesOK_cons freeOK_nil freeOK_cons D.frz frzL Ob.frz frzO St.frz forgetLs dropObs putObs hcall freeOf keeps baseN shD isShift shMax k_bad VCopsG frz_nil actx actc cnum vwCut St.frzT St.opnT St.clsT D.opn opnL Ob.opn opnO VCou VCcx St.oneS D.objI D.objK scrL D.scr St.opnS St.clsS D.cellS D.fzs fzsL k_mrk k_mrq IOper.gh
set_option maxRecDepth 100000 in
set_option maxHeartbeats 4000000 in
theorem v_Read (h1 : T.sp n_strings_Split = some sp_Split) (h2 : T.sp n_console_taker_next = some sp_next) (h3 : T.sp n_console_taker_number = some sp_num) : Verified T ir_console_Read sp_Read := by
  refine Verified.mk ?_
  rintro ds ⟨s, rfl, hs⟩
  rw [read_F]
  unfold readT
  have x1 : sp_Split.hx = none := rfl
  have x2 : sp_next.hx = some hs_next := rfl
  have x3 : sp_num.hx = some hs_num := rfl
  by_cases hl : 60 < s.length
  · have hl' : 60 < (s.length : Int) := by omega
    rw [if_pos hl]
    simp (implicitDefEqProofs := false) (maxSteps := 10000000) [ir_console_Read, hl', cmC, cm0]
    done
  · have hl' : ¬ 60 < (s.length : Int) := by omega
    rw [if_neg hl]
    have f1 := split_F s 32
    have p1 := split_pre (s := s) (c := 32) (by omega)
    have hw : ∀ w ∈ Lib.split s [32], w.length ≤ 1000000 := fun w h => by have := split_len s [32] w h; omega
    generalize Lib.split s [32] = ws0 at f1 hw ⊢
    have f2 := next_F ws0 false
    have p2 := next_pre ws0 false
    have hw1 := nxtW_tl (b := false) hw
    generalize nxtW ws0 false = q0 at f2 hw1 ⊢
    obtain ⟨w, ws1, b1⟩ := q0
    simp only at f2 hw1 ⊢
    have f3 := num_F 5 ws1 b1
    have p3 := num_pre 5 b1 hw1
    have hw2 := numW_tl (b := b1) (m := 5) hw1
    unfold cmdT num3
    generalize numW 5 ws1 b1 = q1 at f3 hw2 ⊢
    obtain ⟨l, ws2, b2⟩ := q1
    simp only at f3 hw2 ⊢
    have f4 := num_F 3 ws2 b2
    have p4 := num_pre 3 b2 hw2
    have hw3 := numW_tl (b := b2) (m := 3) hw2
    generalize numW 3 ws2 b2 = q2 at f4 hw3 ⊢
    obtain ⟨st, ws3, b3⟩ := q2
    simp only at f4 hw3 ⊢
    have f5 := num_F 1048576 ws3 b3
    have p5 := num_pre 1048576 b3 hw3
    generalize numW 1048576 ws3 b3 = q3 at f5 ⊢
    obtain ⟨n, ws4, b4⟩ := q3
    simp only at f5 ⊢
    have f6 := next_F ws4 b4
    have p6 := next_pre ws4 b4
    generalize nxtW ws4 b4 = q4 at f6 ⊢
    obtain ⟨y, ws5, b5⟩ := q4
    simp only at f6 ⊢
    by_cases c1 : w = wList
    · subst c1
      rw [if_pos rfl]
      unfold finT
      simp (implicitDefEqProofs := false) (maxSteps := 10000000) [ir_console_Read, hl', h1, x1, f1, p1, h2, x2, f2, p2, wList, cmC, cm0]
      refine ⟨fun h => ?_, fun h h' => ?_⟩
      · have h2 : b1 = true ∨ ¬ ws1 = [] := h.imp id fun g e => by rw [e] at g; simp at g
        simp [h2]
      · subst h'; simp [h]
    rw [if_neg c1]
    have d1 : ¬ w = [108, 105, 115, 116] := c1
    by_cases c2 : w = wAudit
    · subst c2
      rw [if_pos rfl]
      unfold finT
      simp (implicitDefEqProofs := false) (maxSteps := 10000000) [ir_console_Read, hl', h1, x1, f1, p1, h2, x2, f2, p2, wAudit, cmC, cm0]
      refine ⟨fun h => ?_, fun h h' => ?_⟩
      · have h2 : b1 = true ∨ ¬ ws1 = [] := h.imp id fun g e => by rw [e] at g; simp at g
        simp [h2]
      · subst h'; simp [h]
    rw [if_neg c2]
    have d2 : ¬ w = [97, 117, 100, 105, 116] := c2
    by_cases c3 : w = wStatus
    · subst c3
      rw [if_pos rfl]
      unfold finT
      simp (implicitDefEqProofs := false) (maxSteps := 10000000) [ir_console_Read, hl', h1, x1, f1, p1, h2, x2, f2, p2, h3, x3, f3, p3, f4, p4, f5, p5, wStatus, cmC, cm0]
      refine ⟨fun h => ?_, fun h h' => ?_⟩
      · have h2 : b4 = true ∨ ¬ ws4 = [] := h.imp id fun g e => by rw [e] at g; simp at g
        simp [h2]
      · subst h'; simp [h]
    rw [if_neg c3]
    have d3 : ¬ w = [115, 116, 97, 116, 117, 115] := c3
    by_cases c4 : w = wForce
    · subst c4
      rw [if_pos rfl]
      unfold finT yesB
      simp (implicitDefEqProofs := false) (maxSteps := 10000000) [ir_console_Read, hl', h1, x1, f1, p1, h2, x2, f2, p2, h3, x3, f3, p3, f4, p4, f5, p5, f6, p6, wForce, wCommit, wAbort, cmC, cm0]
      refine ⟨fun h => ⟨h, fun g => ⟨h, g⟩⟩, fun h g => ⟨h, ?_⟩, fun h => ?_, fun h g g2 => ?_⟩
      · by_cases e : y = [99, 111, 109, 109, 105, 116]
        · exact .inl e
        · exact .inr (g e)
      · have h2 : (b5 = true ∨ ¬y = [99, 111, 109, 109, 105, 116] ∧ ¬y = [97, 98, 111, 114, 116]) ∨ ¬ws5 = [] := h.imp id fun g e => by rw [e] at g; simp at g
        simp [h2]
      · have h2 : ¬ ((b5 = true ∨ ¬y = [99, 111, 109, 109, 105, 116] ∧ ¬y = [97, 98, 111, 114, 116]) ∨ ¬ws5 = []) := by
          rintro ((e | ⟨e1, e2⟩) | e)
          · rw [h] at e; cases e
          · exact e2 (g e1)
          · exact e g2
        simp [h2]
        by_cases e : y = [99, 111, 109, 109, 105, 116] <;> simp [e]
    rw [if_neg c4]
    have d4 : ¬ w = [102, 111, 114, 99, 101] := c4
    simp (implicitDefEqProofs := false) (maxSteps := 10000000) [ir_console_Read, hl', h1, x1, f1, p1, h2, x2, f2, p2, d1, d2, d3, d4, cmC, cm0]
    done
end
end Go.Proofs.YtgmegekboglgdaaDoor
