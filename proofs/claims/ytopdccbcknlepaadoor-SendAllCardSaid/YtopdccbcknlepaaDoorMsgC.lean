/-
  Message computes what the plain function mkMsg says; such a message may be. Conditions: those of the specifications' 'pre'.
-/
import Derived.Test.YtopdccbcknlepaaDoorMsgB
set_option linter.unusedVariables false
set_option linter.unusedSimpArgs false
namespace Go.Proofs.YtopdccbcknlepaaDoor
open Go Go.Vcg

section
variable {T : Tb}
set_option maxRecDepth 100000 in
set_option maxHeartbeats 4000000 in
theorem v_Message (h1 : T.sp n_reredoskeep_picked = some sp_picked) (h2 : T.sp n_reredoskeep_Txn = some sp_Txn) : Verified T ir_reredoskeep_Message sp_Message := by
  refine Verified.mk ?_
  rintro ds ⟨x, r, rfl, ⟨hx, q1, q2, q3, q4⟩, hr⟩
  obtain ⟨S, ls, p, rfl⟩ := isCfg_cfgD hx
  obtain ⟨k, a, b, c, d, e⟩ := r
  obtain ⟨r1, r2, r3, r4, r5, r6⟩ := hr
  simp only at r1 r2 r3 r4 r5 r6
  have hpre : sp_Txn.pre [.agg [.int .i64 S, .fz 2 (ls.map lbc), .int .i64 p], .int .i64 b, .int .i64 c] := ⟨_, b, c, rfl, ⟨hx, q1, q2, q3, q4⟩, r3, r4⟩
  have hF : sp_Txn.F [.agg [.int .i64 S, .fz 2 (ls.map lbc), .int .i64 p], .int .i64 b, .int .i64 c] = .agg [.int .i64 (pk b S), .int .i64 (1 + pk c 6)] := by simp [sp_Txn, cfgOf]
  have hx2 : sp_Txn.hx = none := rfl
  simp only [sp_Message, cfgOf_cfgD, rawOf_rawD] at q1 q2 q3 q4 ⊢
  have t7 := inR_tdiv (b := 7) r2 (by decide)
  have t5 := inR_tdiv (b := 5) r5 (by decide)
  have t3 := inR_tdiv (b := 3) r6 (by decide)
  have t4 := inR_tdiv (b := 4) r6 (by decide)
  have b4 := pk_bounds e 4 (by decide)
  have b9 := pk_bounds k 9 (by decide)
  have hS : 0 < S := by omega
  have hL : 0 < ls.length := by omega
  have hel := elem_codes b4.1 b4.2
  have hin : inR .i64 (1 + pk k 9) := by simp only [inR]; omega
  simp (implicitDefEqProofs := false) (maxSteps := 10000000) [k_seq, k_block, k_skip, k_reg, k_alt, k_cond, k_exit, k_ret, kf_nil, kf_seq_n, kf_seq_e, kf_seq_r, kf_blk_n, kf_blk_e, kf_blk_r, kf_lp_n, kf_lp_e, kf_lp_r, kf_cut_n, kf_cut_e, kf_cut_r, mkTm, VCops, VCalt, istep, act, gd, applyE, wrapD, Opd.ev, get_mk, set_mk, set_mk0, tget16, tset16, tget_0, tset_0, tget_1, tset_1, tget_2, tset_2, tget_3, tset_3, tget_4, tset_4, tget_5, tset_5, tget_6, tset_6, tget_7, tset_7, tget_8, tset_8, tget_9, tset_9, tget_10, tset_10, tget_11, tset_11, tget_12, tset_12, tget_13, tset_13, tget_14, tset_14, tget_15, tset_15, D.un, D.gu, gus, IOp.opds, binD, fnPost, getRes, IRes.get, oneRes, D.out, outL, D.clos, closL, D.norow, norowL, D.lv, lvL, D.scal, scalL, D.cells, D.cell, D.cell', St.lk, obPut, obDel, List.lookup, cut, pickD, splice, fillParts, fillRows, elem_cons, newsOf, D.pl, D.forget, forgetL, Ob.forget, forgetO, eqCells, sg, leD, leDL, leOb, apartK, St.le, D.keys, keysL, D.rows, rowsL, obKeys, addKeys, reach, pos, D.ren, renL, Ob.ren, inM, outM, inObs, outObs, goneK, apartN, okNames_eq, okNms, obNms, namesOK_nil, namesOK_cons, freeOK_nil, freeOK_cons, D.frz, frzL, Ob.frz, frzO, St.frz, forgetLs, dropObs, putObs, hcall, freeOf, keeps, baseN, shD, isShift, shMax, k_bad, VCopsG, frz_nil, actx, actc, cnum, vwCut, St.frzT, St.opnT, St.clsT, D.opn, opnL, Ob.opn, opnO, VCou, VCcx, St.oneS, D.objI, D.objK, scrL, D.scr, St.opnS, St.clsS, D.cellS, D.fzs, fzsL, k_mrk, IOper.gh, ir_reredoskeep_Message, h1, hpre, hF, hx2, h2, sp_picked, hel, b4, hin, r1, r2, r3, r4, r5, r6, t7, t5, t3, t4, hS, hL, cfgD, rawD, rawC, and_assoc]
  simp only [mkMsg]
  repeat' (first | apply And.intro | intro _)
  all_goals simp_all [msgD, msgC]
end

/-! ### Such a message may be -/
theorem pk_range (n m : Int) (hm : 0 < m) (b : Int) (hb : m ≤ b + 1) : 0 ≤ pk n m ∧ pk n m ≤ b := by
  have := pk_bounds n m hm; omega
theorem codeAt_ok (i : Int) : okCode (codeAt i) = true := by
  unfold codeAt; split
  · decide
  · split <;> decide
theorem okKey_pk (n : Int) : okKey (pk n 8) = true := by
  have := pk_bounds n 8 (by decide); simp [okKey]; omega
theorem okVal_pk (n m : Int) (h0 : 0 < m) (h1 : m ≤ 1073741824) : okVal (pk n m) = true := by
  have := pk_bounds n m h0; simp [okVal]; omega
theorem okAsk_pk (n m : Int) (h0 : 0 < m) (h1 : m ≤ 100) : okAsk (pk n m) = true := by
  have := pk_bounds n m h0; simp [okAsk]; omega
theorem okTxn_pk (S a b : Int) (h0 : 0 < S) : okTxn S (pk a S) (1 + pk b 6) = true := by
  have := pk_bounds a S h0; have := pk_bounds b 6 (by decide); simp [okTxn]; omega
theorem mkMsg_kind (S L : Int) (r : Rw) : (mkMsg S L r).kind = 1 + pk r.k 9 := by
  unfold mkMsg
  simp only
  repeat' split
  all_goals rfl
theorem mkMsg_range (S L : Int) (r : Rw) (hS : 0 < S) (hL : 0 < L) : okRange S L (mkMsg S L r) := by
  have h1 := pk_bounds r.a S hS
  have h2 := pk_bounds (r.a.tdiv 7) S hS
  have h3 := okTxn_pk S r.b r.c hS
  have h4 := pk_bounds r.d L hL
  have h5 := okKey_pk (r.d.tdiv 5)
  have k0 : okKey 0 = true := by decide
  have v0 : okVal 0 = true := by decide
  have a0 : okAsk 0 = true := by decide
  have c0 : okCode 0 = true := by decide
  have v1 := okVal_pk r.e 1073741824 (by decide) (by decide)
  have v2 := okVal_pk r.e 99 (by decide) (by decide)
  have a1 := okAsk_pk r.e 9 (by decide) (by decide)
  have a3 := okAsk_pk (r.e.tdiv 3) 9 (by decide) (by decide)
  have a4 := okAsk_pk (r.e.tdiv 4) 9 (by decide) (by decide)
  have c1 := codeAt_ok (pk r.e 4)
  have e4 := pk_range r.e 4 (by decide) 1048576 (by decide)
  have e5 := pk_range r.e 5 (by decide) 1048576 (by decide)
  unfold mkMsg
  simp only
  repeat' split
  all_goals
    simp only [okRange, h1, h2, h3, h4, h5, k0, v0, a0, c0, v1, v2, a1, a3, a4, c1, e4, e5, hL, and_self, true_and, and_true, Int.le_refl]
  all_goals first | done | decide | omega
theorem mkMsg_form (S L : Int) (r : Rw) : okForm (mkMsg S L r) := by
  have h9 := pk_bounds r.k 9 (by decide)
  unfold mkMsg
  simp only
  generalize 1 + pk r.k 9 = kind at *
  split
  · rename_i h; subst h; simp [okForm, pt, parts]
  split
  · rename_i h; subst h; simp [okForm, pt, parts]
  split
  · rename_i h; subst h; simp [okForm, pt, parts]
  split
  · rename_i h; subst h; simp [okForm, pt, parts]
  split
  · rename_i h; subst h
    split
    · rename_i h; simp [okForm, pt, parts, h]
    · simp [okForm, pt, parts]
  split
  · rename_i h; subst h; simp [okForm, pt, parts]
  split
  · rename_i h; subst h; simp [okForm, pt, parts]
  · simp [okForm]
theorem mkMsg_ok (s p : Int) (ls : List (Int × Int)) (r : Rw) (hc : check s ls p = 0) (hS : 0 < s) (hL : 0 < ls.length) : chkM s ls p (mkMsg s ls.length r) = 0 := by
  have h9 := pk_bounds r.k 9 (by decide)
  have hr := mkMsg_range s ls.length r hS (by omega)
  have hf := mkMsg_form s ls.length r
  rw [chkM, if_neg (by simp [hc]), if_neg (by rw [mkMsg_kind]; omega), if_neg (by simp [hr]), if_neg (by simp [hf])]

section
variable {T : Tb}
theorem okSL_config (s p : Int) (ns : List Int) (hs : 0 ≤ s ∧ s < 3) : okSL (cfgD (1 + s) (cfgLs ns) p) := by
  have hg := cfgLs_good ns
  refine ⟨?_, ?_, ?_, ?_, ?_⟩
  · simp [isCfg, cfgD, isLb_lbc]
  all_goals (rw [cfgOf_cfgD]; simp only; omega)

end
end Go.Proofs.YtopdccbcknlepaaDoor
