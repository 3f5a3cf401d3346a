/-
  Lines are read: one line. Conditions: those of its specification's 'pre', and that the functions that are called are what theirs say.
-/
import Derived.Test.YthiggepiihoooaaDoorLnD
set_option linter.unusedVariables false
set_option linter.unusedSimpArgs false
namespace Go.Proofs.YthiggepiihoooaaDoor
open Go Go.Vcg

def sp_lone : Sp := { pre := fun ds => ∃ s : List UInt8, ds = [.str s] ∧ s.length ≤ 4000000, F := fun | [.str s] => .tup [.agg (actC (oneL s).1), .bool (oneL s).2] | _ => .any }
theorem lone_F (s : List UInt8) : sp_lone.F [.str s] = .tup [.agg (actC (oneL s).1), .bool (oneL s).2] := rfl
theorem lone_pre {s : List UInt8} (h : s.length ≤ 4000000) : sp_lone.pre [.str s] = True := by
  simp only [sp_lone, eq_iff_iff, iff_true]; exact ⟨s, rfl, h⟩
theorem splitK_len (c : List UInt8) : ∀ (k : Nat) (s : List UInt8), ∀ w ∈ Lib.splitK c 0 k s, w.length ≤ s.length
  | 0, s, w, h => by simp only [Lib.splitK, List.mem_singleton] at h; subst h; exact Nat.le_refl _
  | k + 1, s, w, h => by
    simp only [Lib.splitK] at h
    split at h
    · simp only [List.mem_singleton] at h; subst h; exact Nat.le_refl _
    · rcases List.mem_cons.1 h with rfl | h
      · rw [List.length_take]; omega
      · have := splitK_len c k _ w h
        rw [List.length_drop] at this
        omega
theorem split_len (s c w : List UInt8) (h : w ∈ Lib.split s c) : w.length ≤ s.length := splitK_len c _ s w h
theorem split_num : ∀ (c : UInt8) (s : List UInt8), (Lib.split s [c]).length ≤ s.length + 1
  | c, [] => by rw [split_last (by simp)]; simp
  | c, b :: s => by
    have ih := split_num c s
    obtain ⟨w, ws, h1, h2⟩ := split_join c s
    by_cases h : b = c
    · subst h; rw [split_eq]; simp only [List.length_cons]; omega
    · rw [split_ne h s w ws h1]; rw [h1] at ih; simp only [List.length_cons] at ih ⊢; omega
theorem wordsDrop : wordsL.map wc = wc [] :: (wordsL.drop 1).map wc := rfl
theorem keepL_step {ws : List (List UInt8)} {b : Bool} (h : ws ≠ []) (hb : b = false) : keepL ws b = ((numL ws b).1 :: (keepL (numL ws b).2.1 (numL ws b).2.2).1, (keepL (numL ws b).2.1 (numL ws b).2.2).2) := by
  subst hb
  cases ws with
  | nil => exact absurd rfl h
  | cons w r => rfl
theorem keepL_stop {ws : List (List UInt8)} {b : Bool} (h : ws = [] ∨ b = true) : keepL ws b = ([], ws, b) := by
  cases ws with
  | nil => rfl
  | cons w r => rcases h with h | h; cases h; subst h; rfl

section
variable {T : Tb}
attribute [local simp] k_seq k_block k_skip k_reg k_alt k_cond k_exit k_ret kf_nil kf_seq_n kf_seq_e kf_seq_r kf_blk_n kf_blk_e kf_blk_r kf_lp_n kf_lp_e kf_lp_r kf_cut_n kf_cut_e kf_cut_r mkTm VCops VCalt istep act gd applyE wrapD Opd.ev get_mk set_mk set_mk0 tget16 tset16 tget_0 tset_0 tget_1 tset_1 tget_2 tset_2 tget_3 tset_3 tget_4 tset_4 tget_5 tset_5 tget_6 tset_6 tget_7 tset_7 tget_8 tset_8 tget_9 tset_9 tget_10 tset_10 tget_11 tset_11 tget_12 tset_12 tget_13 tset_13 tget_14 tset_14 tget_15 tset_15 D.un D.gu gus IOp.opds binD fnPost getRes IRes.get oneRes D.out outL D.clos closL D.norow norowL D.lv lvL D.scal scalL D.cells D.cell D.cell' St.lk obPut obDel List.lookup cut pickD splice fillParts fillRows elem_cons newsOf D.pl D.forget forgetL Ob.forget forgetO eqCells sg leD leDL leOb apartK St.le D.keys keysL D.rows rowsL obKeys addKeys reach pos D.ren renL Ob.ren inM outM inObs outObs goneK apartN okNames_eq okNms obNms namesOK_nil namesOK_cons freeOK_nil freeOK_cons D.frz frzL Ob.frz frzO St.frz forgetLs dropObs putObs hcall freeOf keeps baseN shD isShift shMax k_bad VCopsG frz_nil actx actc cnum vwCut St.frzT St.opnT St.clsT D.opn opnL Ob.opn opnO VCou VCcx St.oneS D.objI D.objK scrL D.scr St.opnS St.clsS D.cellS D.fzs fzsL k_mrk k_mrq IOper.gh
set_option maxRecDepth 100000 in
set_option maxHeartbeats 16000000 in
theorem v_lone (hg : T.gl 0 = .ad 1 (wordsL.map wc) 0 0) (h0 : T.sp n_strings_Split = some sp_Split) (h1 : T.sp n_lines_taker_next = some sp_next) (h2 : T.sp n_lines_taker_number = some sp_num) (h3 : T.sp n_slices_Index_string_string = some sp_IndexW) (h4 : T.sp n_lines_taker_call = some sp_tcall) (h5 : T.sp n_lines_taker_text = some sp_text) : Verified T ir_lines_one sp_lone := by
  refine Verified.mk ?_
  rintro ds ⟨s, rfl, hs⟩
  rw [lone_F]
  have x0 : sp_Split.hx = none := rfl
  have x1 : sp_next.hx = some (hs_tk tkNext) := rfl
  have x2 : sp_num.hx = some (hs_tk tkNum) := rfl
  have x3 : sp_IndexW.hx = none := rfl
  have x4 : sp_tcall.hx = some (hs_tk tkCall) := rfl
  have x5 : sp_text.hx = some (hs_tk tkText) := rfl
  have f0 := split_F s 32
  have p0 := split_pre (s := s) (c := 32) hs
  have hw : okWs (Lib.split s [32]) := fun w h => by have := split_len s [32] w h; omega
  have hnum := split_num 32 s
  unfold oneL oneW
  generalize Lib.split s [32] = ws0 at f0 hw hnum ⊢
  have f1 := next_F ws0 false
  have p1 := next_pre false hw
  have hw1 := nxtW_tl (b := false) hw
  have f3 := indexW_F (wordsL.drop 1) (nxtW ws0 false).1
  have p3 := indexW_pre (l := wordsL.drop 1) (nxtW ws0 false).1 (by decide)
  have hbd := idxW_bounds (wordsL.drop 1) (nxtW ws0 false).1
  have hdl : (wordsL.drop 1).length = 8 := rfl
  rw [hdl] at hbd
  rw [wordsDrop] at hg
  have hcl : ((wordsL.drop 1).map wc).length = 8 := rfl
  have hca : (((wordsL.drop 1).map wc).all fun e => e.all D.cell) = true := rfl
  have hcw : (wc []).all D.cell = true := rfl
  have hwl : (nxtW ws0 false).2.1.length ≤ 4000000 + 1 := by
    cases ws0 with
    | nil => simp [nxtW]
    | cons w r => simp only [List.length_cons] at hnum; simp only [nxtW]; omega
  generalize (wordsL.drop 1).map wc = ct at hg f3 p3 hcl hca
  generalize idxW (wordsL.drop 1) (nxtW ws0 false).1 = k at f3 hbd ⊢
  generalize nxtW ws0 false = q at f1 hw1 f3 p3 hwl ⊢
  obtain ⟨w, ws1, b1⟩ := q
  simp only at f1 hw1 f3 p3 hwl ⊢
  clear hw hnum hdl
  have hz : ∀ l : List (List UInt8), ((l.length : Int) == 0) = decide (l = []) := fun l => by cases l <;> simp <;> omega
  unfold oneX oneK
  by_cases k4 : k = 4
  · subst k4
    cases b1
    · simp (implicitDefEqProofs := false) (maxSteps := 10000000) [ir_lines_one, ir_lines_one_r1, hg, hcl, hca, hcw, h0, x0, f0, p0, h1, x1, f1, p1, h3, x3, f3, p3, actC, c0]
      first | exact ⟨by simp only [inR]; omega, hz _⟩ | (simp only [inR]; omega)
    · simp (implicitDefEqProofs := false) (maxSteps := 10000000) [ir_lines_one, ir_lines_one_r1, hg, hcl, hca, hcw, h0, x0, f0, p0, h1, x1, f1, p1, h3, x3, f3, p3, actC, c0]
      first | exact ⟨by simp only [inR]; omega, hz _⟩ | (simp only [inR]; omega)
  by_cases k0 : k = -1
  · subst k0
    simp (implicitDefEqProofs := false) (maxSteps := 10000000) [ir_lines_one, ir_lines_one_r1, hg, hcl, hca, hcw, h0, x0, f0, p0, h1, x1, f1, p1, h3, x3, f3, p3, actC, a0, c0]
    simp only [inR]; omega
  have f4 := num_F ws1 b1
  have p4 := num_pre b1 hw1
  have hw2 := numL_tl (b := b1) hw1
  have hl2 : (numL ws1 b1).2.1.length ≤ ws1.length := by cases ws1 <;> simp [numL, nxtW]
  unfold oneP oneC oneA oneT
  generalize numL ws1 b1 = q1 at f4 hw2 hl2 ⊢
  obtain ⟨n1, ws2, b2⟩ := q1
  simp only at f4 hw2 hl2 ⊢
  by_cases k6 : k = 6
  · subst k6
    cases b2
    · simp (implicitDefEqProofs := false) (maxSteps := 10000000) [ir_lines_one, ir_lines_one_r1, hg, hcl, hca, hcw, h0, x0, f0, p0, h1, x1, f1, p1, h3, x3, f3, p3, h2, x2, f4, p4, actC, c0]
      first | exact ⟨by simp only [inR]; omega, hz _⟩ | (simp only [inR]; omega)
    · simp (implicitDefEqProofs := false) (maxSteps := 10000000) [ir_lines_one, ir_lines_one_r1, hg, hcl, hca, hcw, h0, x0, f0, p0, h1, x1, f1, p1, h3, x3, f3, p3, h2, x2, f4, p4, actC, c0]
      first | exact ⟨by simp only [inR]; omega, hz _⟩ | (simp only [inR]; omega)
  by_cases k5 : k = 5
  · subst k5
    simp (implicitDefEqProofs := false) (maxSteps := 10000000) [ir_lines_one, hg, hcl, hca, hcw, h0, x0, f0, p0, h1, x1, f1, p1, h3, x3, f3, p3, h2, x2, f4, p4]
    refine ⟨by simp only [inR]; omega, ?_⟩
    clear hg hcl hca hcw f0 p0 f1 p1 f3 p3 f4 p4 hz hbd hw1
    refine k_loop (ι := {p : List Int × List (List UInt8) × Bool // keepL ws2 b2 = (p.1 ++ (keepL p.2.1 p.2.2).1, (keepL p.2.1 p.2.2).2) ∧ okWs p.2.1 ∧ p.1.length + p.2.1.length ≤ 4000000 + 1}) (fun y => ⟨mkTm 93 0 [(2, .own 2 0), (3, .bool false), (4, .own 9 0), (5, .own 5 0)],
        [(2, .box [.int .i64 0, .int .i64 0, .int .i64 0, .int .i64 0, .int .i64 0, .nl 1, .int .i64 0, .int .i64 0, .int .i64 0, .int .i64 0, .int .i64 0, .str []]), (9, .box [.fz 1 (y.1.2.1.map wc), .bool y.1.2.2]), (5, .box [.int .i64 6, .int .i64 n1, .int .i64 0, .int .i64 0, .int .i64 0, .row 100, .int .i64 0, .int .i64 0, .int .i64 0, .int .i64 0, .int .i64 0, .str []]), (100, .row 1 (y.1.1.map ic))]⟩)
      (fun y => y.1.2.1.length) [(100, none)] ⟨([], ws2, b2), by simp, hw2, by simp only [List.length_nil]; omega⟩ (by simp (implicitDefEqProofs := false) (maxSteps := 10000000)) ?_
    rintro ⟨⟨ks, ws, b⟩, hk, hwk, hlk⟩ Q hQ
    simp only at hQ hk hwk hlk
    by_cases hcont : ws ≠ [] ∧ b = false
    · obtain ⟨hne, rfl⟩ := hcont
      have f5 := num_F ws false
      have p5 := num_pre false hwk
      have hw3 := numL_tl (b := false) hwk
      have hl3 : (numL ws false).2.1.length < ws.length := by
        cases ws with
        | nil => exact absurd rfl hne
        | cons w r => simp [numL, nxtW]
      rw [keepL_step hne rfl] at hk
      generalize numL ws false = q2 at f5 hw3 hl3 hk
      obtain ⟨n2, ws3, b3⟩ := q2
      simp only at f5 hw3 hl3 hk
      have hwp : 0 < ws.length := by omega
      have hwp' : 0 < (ws.length : Int) := by omega
      simp (implicitDefEqProofs := false) (maxSteps := 10000000) [ir_lines_one_b0, hwp, hwp', hne, h2, x2, f5, p5]
      refine ⟨by omega, hQ _ [(100, some 61)] ⟨(ks ++ [n2], ws3, b3), by rw [hk]; simp, hw3, by simp only [List.length_append, List.length_cons, List.length_nil]; omega⟩ (by simp (implicitDefEqProofs := false) (maxSteps := 10000000) [ic]) (by simp only; omega)⟩
    · have hstop : ws = [] ∨ b = true := by
        cases b
        · exact .inl (Classical.byContradiction fun h => hcont ⟨h, rfl⟩)
        · exact .inr rfl
      rw [keepL_stop hstop] at hk
      simp only [List.append_nil] at hk
      cases b
      · have hws : ws = [] := hstop.resolve_right (by simp)
        subst hws
        simp (implicitDefEqProofs := false) (maxSteps := 10000000) [ir_lines_one_b0, ir_lines_one_r1, hk, actC, c0]
        done
      · have hz2 : (ws = []) ∨ 0 < ws.length := by cases ws <;> simp
        rcases hz2 with rfl | hz2
        · simp (implicitDefEqProofs := false) (maxSteps := 10000000) [ir_lines_one_b0, ir_lines_one_r1, hk, actC, c0]
          done
        · have hz3 : 0 < (ws.length : Int) := by omega
          simp (implicitDefEqProofs := false) (maxSteps := 10000000) [ir_lines_one_b0, ir_lines_one_r1, hk, hz2, hz3, actC, c0]
          done
  have f5 := num_F ws2 b2
  have p5 := num_pre b2 hw2
  have hw3 := numL_tl (b := b2) hw2
  generalize numL ws2 b2 = q2 at f5 hw3 ⊢
  obtain ⟨n2, ws3, b3⟩ := q2
  simp only at f5 hw3 ⊢
  by_cases k0 : k = 0
  · subst k0
    have f6 := tcall_F ws3 b3
    have p6 := tcall_pre b3 hw3
    generalize callL ws3 b3 = q3 at f6 ⊢
    obtain ⟨cl, ws4, b4⟩ := q3
    simp only at f6 ⊢
    cases b4
    · simp (implicitDefEqProofs := false) (maxSteps := 10000000) [ir_lines_one, ir_lines_one_r1, hg, hcl, hca, hcw, h0, x0, f0, p0, h1, x1, f1, p1, h3, x3, f3, p3, h2, x2, f4, p4, f5, p5, h4, x4, f6, p6, actC, clC, c0]
      first | exact ⟨by simp only [inR]; omega, hz _⟩ | (simp only [inR]; omega)
    · simp (implicitDefEqProofs := false) (maxSteps := 10000000) [ir_lines_one, ir_lines_one_r1, hg, hcl, hca, hcw, h0, x0, f0, p0, h1, x1, f1, p1, h3, x3, f3, p3, h2, x2, f4, p4, f5, p5, h4, x4, f6, p6, actC, clC, c0]
      first | exact ⟨by simp only [inR]; omega, hz _⟩ | (simp only [inR]; omega)
  by_cases k7 : k = 7
  · subst k7
    have f6 := text_F ws3 b3
    have p6 := text_pre b3 hw3
    generalize textL ws3 b3 = q3 at f6 ⊢
    obtain ⟨tx, ws4, b4⟩ := q3
    simp only at f6 ⊢
    cases b4
    · simp (implicitDefEqProofs := false) (maxSteps := 10000000) [ir_lines_one, ir_lines_one_r1, hg, hcl, hca, hcw, h0, x0, f0, p0, h1, x1, f1, p1, h3, x3, f3, p3, h2, x2, f4, p4, f5, p5, h5, x5, f6, p6, actC, c0]
      first | exact ⟨by simp only [inR]; omega, hz _⟩ | (simp only [inR]; omega)
    · simp (implicitDefEqProofs := false) (maxSteps := 10000000) [ir_lines_one, ir_lines_one_r1, hg, hcl, hca, hcw, h0, x0, f0, p0, h1, x1, f1, p1, h3, x3, f3, p3, h2, x2, f4, p4, f5, p5, h5, x5, f6, p6, actC, c0]
      first | exact ⟨by simp only [inR]; omega, hz _⟩ | (simp only [inR]; omega)
  have f6 := num_F ws3 b3
  have p6 := num_pre b3 hw3
  have hw4 := numL_tl (b := b3) hw3
  generalize numL ws3 b3 = q3 at f6 hw4 ⊢
  obtain ⟨n3, ws4, b4⟩ := q3
  simp only at f6 hw4 ⊢
  have f7 := num_F ws4 b4
  have p7 := num_pre b4 hw4
  generalize numL ws4 b4 = q4 at f7 ⊢
  obtain ⟨n4, ws5, b5⟩ := q4
  simp only at f7 ⊢
  rcases (show k = 1 ∨ k = 2 ∨ k = 3 by omega) with rfl | rfl | rfl <;> cases b5
  all_goals simp (implicitDefEqProofs := false) (maxSteps := 10000000) [ir_lines_one, ir_lines_one_r1, hg, hcl, hca, hcw, h0, x0, f0, p0, h1, x1, f1, p1, h3, x3, f3, p3, h2, x2, f4, p4, f5, p5, f6, p6, f7, p7, actC, c0]
  all_goals first | exact ⟨by simp only [inR]; omega, hz _⟩ | (simp only [inR]; omega)
end
end Go.Proofs.YthiggepiihoooaaDoor
