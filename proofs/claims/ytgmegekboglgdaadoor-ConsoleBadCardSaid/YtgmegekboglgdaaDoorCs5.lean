/-
  The laws ConsoleBack and ConsoleBad: their functions say true. Conditions: those of each specification's 'pre', and that the functions that are called are what theirs say.
-/
import Derived.Test.YtgmegekboglgdaaDoorCs4
set_option linter.unusedVariables false
set_option linter.unusedSimpArgs false
namespace Go.Proofs.YtgmegekboglgdaaDoor
open Go Go.Vcg

theorem picked_F (n m : Int) : sp_picked.F [.int .i64 n, .int .i64 m] = .int .i64 (pk n m) := rfl
theorem picked_pre {n m : Int} (h1 : inR .i64 n) (h2 : 0 < m) : sp_picked.pre [.int .i64 n, .int .i64 m] = True := by
  simp only [sp_picked, eq_iff_iff, iff_true]; exact ⟨_, _, rfl, h1, h2⟩
def sp_ConsoleBack : Sp := { pre := fun ds => ∃ (l s n : Int) (y : Bool) (w : Int), ds = [.int .i64 l, .int .i64 s, .int .i64 n, .bool y, .int .i64 w] ∧ inR .i64 l ∧ inR .i64 s ∧ inR .i64 n ∧ inR .i64 w, F := fun _ => .bool true }
def sp_ConsoleBad : Sp := { pre := fun ds => ∃ (w n : Int), ds = [.int .i64 w, .int .i64 n] ∧ inR .i64 w ∧ inR .i64 n, F := fun _ => .bool true }
theorem bytes_zero : ∀ n : Nat, bytesOf (List.replicate n [D.int .u8 0]) = some (List.replicate n 0)
  | 0 => rfl
  | n + 1 => by
    rw [List.replicate_succ, List.replicate_succ]
    simp only [bytesOf, bytes_zero n]
    rfl

section
variable {T : Tb}
attribute [local simp] k_seq k_block k_skip k_reg k_alt k_cond k_exit k_ret kf_nil kf_seq_n kf_seq_e kf_seq_r kf_blk_n kf_blk_e kf_blk_r kf_lp_n kf_lp_e kf_lp_r kf_cut_n kf_cut_e kf_cut_r mkTm VCops VCalt istep act gd applyE wrapD Opd.ev get_mk set_mk set_mk0 tget16 tset16 tget_0 tset_0 tget_1 tset_1 tget_2 tset_2 tget_3 tset_3 tget_4 tset_4 tget_5 tset_5 tget_6 tset_6 tget_7 tset_7 tget_8 tset_8 tget_9 tset_9 tget_10 tset_10 tget_11 tset_11 tget_12 tset_12 tget_13 tset_13 tget_14 tset_14 tget_15 tset_15 D.un D.gu gus IOp.opds binD fnPost getRes IRes.get oneRes D.out outL D.clos closL D.norow norowL D.lv lvL D.scal scalL D.cells D.cell D.cell' St.lk obPut obDel List.lookup cut pickD splice fillParts fillRows elem_cons newsOf D.pl D.forget forgetL Ob.forget forgetO eqCells sg leD leDL leOb apartK St.le D.keys keysL D.rows rowsL obKeys addKeys reach pos D.ren renL Ob.ren inM outM inObs outObs goneK apartN okNames_eq okNms obNms namesOK_nil namesOK_cons freeOK_nil freeOK_cons D.frz frzL Ob.frz frzO St.frz forgetLs dropObs putObs hcall freeOf keeps baseN shD isShift shMax k_bad VCopsG frz_nil actx actc cnum vwCut St.frzT St.opnT St.clsT D.opn opnL Ob.opn opnO VCou VCcx St.oneS D.objI D.objK scrL D.scr St.opnS St.clsS D.cellS D.fzs fzsL k_mrk k_mrq IOper.gh
set_option maxRecDepth 100000 in
set_option maxHeartbeats 8000000 in
theorem v_ConsoleBack (h1 : T.sp n_reredoskeep_picked = some sp_picked) (h2 : T.sp n_reredoskeep_dec = some (sp_dec 10000000)) (h3 : T.sp n_console_Read = some sp_Read) : Verified T ir_reredoskeep_ConsoleBack sp_ConsoleBack := by
  refine Verified.mk ?_
  rintro ds ⟨l, s, n, y, w, rfl, hl, hs, hn, hw⟩
  have hF : sp_ConsoleBack.F [.int .i64 l, .int .i64 s, .int .i64 n, .bool y, .int .i64 w] = .bool true := rfl
  rw [hF]
  have x1 : sp_picked.hx = none := rfl
  have x2 : (sp_dec 10000000).hx = none := rfl
  have x3 : sp_Read.hx = none := rfl
  have f1 := picked_F l 6
  have p1 := picked_pre hl (by decide : (0 : Int) < 6)
  have b1 := pk_bounds l 6 (by decide)
  obtain ⟨a, ha⟩ : ∃ a : Nat, pk l 6 = a := ⟨(pk l 6).toNat, by omega⟩
  rw [ha] at f1 b1
  have f2 := picked_F s 4
  have p2 := picked_pre hs (by decide : (0 : Int) < 4)
  have b2 := pk_bounds s 4 (by decide)
  obtain ⟨b, hb⟩ : ∃ b : Nat, pk s 4 = b := ⟨(pk s 4).toNat, by omega⟩
  rw [hb] at f2 b2
  have f3 := picked_F n 1048577
  have p3 := picked_pre hn (by decide : (0 : Int) < 1048577)
  have b3 := pk_bounds n 1048577 (by decide)
  obtain ⟨c, hc⟩ : ∃ c : Nat, pk n 1048577 = c := ⟨(pk n 1048577).toNat, by omega⟩
  rw [hc] at f3 b3
  have f4 := picked_F w 4
  have p4 := picked_pre hw (by decide : (0 : Int) < 4)
  have b4 := pk_bounds w 4 (by decide)
  generalize pk w 4 = v at f4 b4
  clear ha hb hc
  have g1 := dec_F 10000000 a
  have q1 := dec_pre (k := 10000000) (n := a) (by omega) (by omega)
  have g2 := dec_F 10000000 b
  have q2 := dec_pre (k := 10000000) (n := b) (by omega) (by omega)
  have g3 := dec_F 10000000 c
  have q3 := dec_pre (k := 10000000) (n := c) (by omega) (by omega)
  have l1 := dd_lenk 0 a (by omega)
  have l2 := dd_lenk 0 b (by omega)
  have l3 := dd_lenk 6 c (by omega)
  have hla : a < 6 := by omega
  have hlb : b < 4 := by omega
  have hlc : c ≤ 1048576 := by omega
  have rA := read_force hla hlb hlc (y := wAbort) (.inr rfl)
  have rC := read_force hla hlb hlc (y := wCommit) (.inl rfl)
  have rS := read_status hla hlb hlc
  have rL := read_list
  have rU := read_audit
  have z1 : ∀ t, (txt3 a b c t).length ≤ 11 + t.length := fun t => txt3_len hla hlb hlc t
  have pA := read_pre (s := wForce ++ 32 :: txt3 a b c (32 :: wAbort)) (by have := z1 (32 :: wAbort); simp only [List.length_append, List.length_cons, wForce, wAbort, List.length_nil] at this ⊢; omega)
  have pA' := read_pre (s := wForce ++ 32 :: txt3 a b c (32 :: (wAbort ++ [32]))) (by have := z1 (32 :: (wAbort ++ [32])); simp only [List.length_append, List.length_cons, wForce, wAbort, List.length_nil] at this ⊢; omega)
  have pC := read_pre (s := wForce ++ 32 :: txt3 a b c (32 :: wCommit)) (by have := z1 (32 :: wCommit); simp only [List.length_append, List.length_cons, wForce, wCommit, List.length_nil] at this ⊢; omega)
  have pC' := read_pre (s := wForce ++ 32 :: txt3 a b c (32 :: (wCommit ++ [32]))) (by have := z1 (32 :: (wCommit ++ [32])); simp only [List.length_append, List.length_cons, wForce, wCommit, List.length_nil] at this ⊢; omega)
  have pS := read_pre (s := wStatus ++ 32 :: txt3 a b c []) (by have := z1 []; simp only [List.length_append, List.length_cons, wStatus, List.length_nil] at this ⊢; omega)
  have pS' := read_pre (s := wStatus ++ 32 :: txt3 a b c [32]) (by have := z1 [32]; simp only [List.length_append, List.length_cons, wStatus, List.length_nil] at this ⊢; omega)
  have pL := read_pre (s := wList) (by decide)
  have pL' := read_pre (s := wList ++ [32]) (by decide)
  have pU := read_pre (s := wAudit) (by decide)
  have pU' := read_pre (s := wAudit ++ [32]) (by decide)
  clear z1
  obtain ⟨rA, rA'⟩ := rA
  obtain ⟨rC, rC'⟩ := rC
  obtain ⟨rS, rS'⟩ := rS
  obtain ⟨rL, rL'⟩ := rL
  obtain ⟨rU, rU'⟩ := rU
  have dA : decide (wAbort = wCommit) = false := by decide
  have dC : decide (wCommit = wCommit) = true := by decide
  rw [dA] at rA
  rw [dC] at rC
  simp only [txt3, wForce, wStatus, wAbort, wCommit, wList, wAudit, cm0, List.cons_append, List.nil_append, List.append_nil] at rA rA' rC rC' rS rS' rL rL' rU rU' pA pA' pC pC' pS pS' pL pL' pU pU'
  generalize Lib.decDigits a = da at g1 l1 rA rA' rC rC' rS rS' pA pA' pC pC' pS pS'
  generalize Lib.decDigits b = db at g2 l2 rA rA' rC rC' rS rS' pA pA' pC pC' pS pS'
  generalize Lib.decDigits c = dc at g3 l3 rA rA' rC rC' rS rS' pA pA' pC pC' pS pS'
  have key : ∀ v : Int, v = 0 ∨ v = 1 ∨ v = 2 ∨ v = 3 → sp_picked.F [.int .i64 w, .int .i64 4] = .int .i64 v → True := fun _ _ _ => trivial
  have hv : v = 0 ∨ v = 1 ∨ v = 2 ∨ v = 3 := by omega
  rcases hv with rfl | rfl | rfl | rfl
  · cases y
    · simp (implicitDefEqProofs := false) (maxSteps := 10000000) [ir_reredoskeep_ConsoleBack, h1, x1, f1, p1, f2, p2, f3, p3, f4, p4, h2, x2, g1, q1, g2, q2, g3, q3, h3, x3, read_F, rA, rA', pA, pA', cmC]
      omega
    · simp (implicitDefEqProofs := false) (maxSteps := 10000000) [ir_reredoskeep_ConsoleBack, h1, x1, f1, p1, f2, p2, f3, p3, f4, p4, h2, x2, g1, q1, g2, q2, g3, q3, h3, x3, read_F, rC, rC', pC, pC', cmC]
      omega
  · cases y
    · simp (implicitDefEqProofs := false) (maxSteps := 10000000) [ir_reredoskeep_ConsoleBack, h1, x1, f1, p1, f2, p2, f3, p3, f4, p4, h2, x2, g1, q1, g2, q2, g3, q3, h3, x3, read_F, rS, rS', pS, pS', cmC]
      omega
    · simp (implicitDefEqProofs := false) (maxSteps := 10000000) [ir_reredoskeep_ConsoleBack, h1, x1, f1, p1, f2, p2, f3, p3, f4, p4, h2, x2, g1, q1, g2, q2, g3, q3, h3, x3, read_F, rS, rS', pS, pS', cmC]
      omega
  · cases y
    · simp (implicitDefEqProofs := false) (maxSteps := 10000000) [ir_reredoskeep_ConsoleBack, h1, x1, f1, p1, f2, p2, f3, p3, f4, p4, h2, x2, g1, q1, g2, q2, g3, q3, h3, x3, read_F, rL, rL', pL, pL', cmC]
      omega
    · simp (implicitDefEqProofs := false) (maxSteps := 10000000) [ir_reredoskeep_ConsoleBack, h1, x1, f1, p1, f2, p2, f3, p3, f4, p4, h2, x2, g1, q1, g2, q2, g3, q3, h3, x3, read_F, rL, rL', pL, pL', cmC]
      omega
  · cases y
    · simp (implicitDefEqProofs := false) (maxSteps := 10000000) [ir_reredoskeep_ConsoleBack, h1, x1, f1, p1, f2, p2, f3, p3, f4, p4, h2, x2, g1, q1, g2, q2, g3, q3, h3, x3, read_F, rU, rU', pU, pU', cmC]
      omega
    · simp (implicitDefEqProofs := false) (maxSteps := 10000000) [ir_reredoskeep_ConsoleBack, h1, x1, f1, p1, f2, p2, f3, p3, f4, p4, h2, x2, g1, q1, g2, q2, g3, q3, h3, x3, read_F, rU, rU', pU, pU', cmC]
      omega
set_option maxRecDepth 100000 in
set_option maxHeartbeats 4000000 in
theorem v_ConsoleBad (h1 : T.sp n_reredoskeep_picked = some sp_picked) (h3 : T.sp n_console_Read = some sp_Read) : Verified T ir_reredoskeep_ConsoleBad sp_ConsoleBad := by
  refine Verified.mk ?_
  rintro ds ⟨w, n, rfl, hw, hn⟩
  have hF : sp_ConsoleBad.F [.int .i64 w, .int .i64 n] = .bool true := rfl
  rw [hF]
  have x1 : sp_picked.hx = none := rfl
  have x3 : sp_Read.hx = none := rfl
  have f1 := picked_F w 14
  have p1 := picked_pre hw (by decide : (0 : Int) < 14)
  have b1 := pk_bounds w 14 (by decide)
  obtain ⟨i, hi⟩ : ∃ i : Nat, pk w 14 = i := ⟨(pk w 14).toNat, by omega⟩
  rw [hi] at f1 b1
  have f2 := picked_F n 9
  have p2 := picked_pre hn (by decide : (0 : Int) < 9)
  have b2 := pk_bounds n 9 (by decide)
  obtain ⟨k, hk⟩ : ∃ k : Nat, pk n 9 = k := ⟨(pk n 9).toNat, by omega⟩
  rw [hk] at f2 b2
  clear hi hk
  have hlen : oddS.length = 14 := rfl
  have hil : i < oddS.length := by omega
  have hel := elem_map wc oddS i hil
  have hr := odd_read oddS[i] (List.getElem_mem hil)
  have hle : oddS[i].length ≤ 60 := by
    have : ∀ s ∈ oddS, s.length ≤ 60 := by decide
    exact this _ (List.getElem_mem hil)
  generalize oddS[i] = s at hel hr hle
  simp only [oddS, List.map_cons, List.map_nil, wc] at hel
  have p3 := read_pre (s := s) (by omega)
  have e61 : (61 + (k : Int)).toNat = 61 + k := by omega
  have hz := bytes_zero (61 + k)
  have rz : readT (List.replicate (61 + k) 0) = (cm0, 1) := by
    unfold readT
    rw [if_pos (by rw [List.length_replicate]; omega)]
  have pz := read_pre (s := List.replicate (61 + k) 0) (by rw [List.length_replicate]; omega)
  have i14 : (i : Int) < 14 := by omega
  have i14' : i < 14 := by omega
  have f3 := read_F s
  have f4 := read_F (List.replicate (61 + k) 0)
  rw [hr] at f3
  rw [rz] at f4
  simp only [cmC, cm0] at f3 f4
  simp (implicitDefEqProofs := false) (maxSteps := 10000000) [ir_reredoskeep_ConsoleBad, h1, x1, f1, p1, f2, p2, h3, x3, f3, p3, f4, pz, hel, e61, hz, i14, i14']
  exact ⟨by simp only [inR]; omega, by omega, by omega, by omega⟩
end
end Go.Proofs.YtgmegekboglgdaaDoor
