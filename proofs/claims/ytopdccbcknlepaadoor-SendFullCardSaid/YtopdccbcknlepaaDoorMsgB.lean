/-
  CheckMessage computes what the plain function chkM says. Conditions: those of its specification's 'pre', and that the table of kinds is there.
-/
import Derived.Test.YtopdccbcknlepaaDoorMsg
set_option linter.unusedVariables false
set_option linter.unusedSimpArgs false
namespace Go.Proofs.YtopdccbcknlepaaDoor
open Go Go.Vcg

theorem parts_eq (k : Int) : ∃ a b c d e f g h, parts k = [a, b, c, d, e, f, g, h] := by
  unfold parts
  split <;> exact ⟨_, _, _, _, _, _, _, _, rfl⟩

theorem okVal_bounds {v : Int} (h : okVal v = true) : 0 ≤ v ∧ v ≤ 1073741824 := by simpa [okVal] using h

section
variable {T : Tb}
set_option maxRecDepth 100000 in
set_option maxHeartbeats 4000000 in
theorem v_CheckMessage (hgl : T.gl 0 = .ad 8 msgT 0 0) (h1 : T.sp n_label_Check = some sp_Check) (h2 : T.sp n_wire_txn = some sp_wtxn) (h3 : T.sp n_wire_key = some sp_key) (h4 : T.sp n_wire_value = some sp_value) (h5 : T.sp n_wire_ask = some sp_ask) (h6 : T.sp n_wire_code = some sp_code) : Verified T ir_wire_CheckMessage sp_CheckMessage := by
  refine Verified.mk ?_
  rintro ds ⟨x, y, rfl, hx, hy⟩
  obtain ⟨S, ls, p, rfl⟩ := isCfg_cfgD hx
  obtain ⟨⟨kind, frm, to, site, n, label, key, value, version, ask, yes, code⟩, rfl⟩ := isMsg_msgD hy
  simp only [sp_CheckMessage, cfgOf_cfgD, msgOf_msgD]
  by_cases hk : kind < 1 ∨ 9 < kind
  · have e1 : check S ls p ≠ 0 → chkM S ls p ⟨kind, frm, to, site, n, label, key, value, version, ask, yes, code⟩ = check S ls p := fun q => by rw [chkM, if_pos q]
    have e2 : check S ls p = 0 → chkM S ls p ⟨kind, frm, to, site, n, label, key, value, version, ask, yes, code⟩ = 3 := fun q => by rw [chkM, if_neg (by simp [q]), if_pos hk]
    generalize chkM S ls p ⟨kind, frm, to, site, n, label, key, value, version, ask, yes, code⟩ = r at e1 e2 ⊢
    have hk2 : 1 ≤ kind → 9 < kind := fun q => by omega
    simp (implicitDefEqProofs := false) (maxSteps := 10000000) [k_seq, k_block, k_skip, k_reg, k_alt, k_cond, k_exit, k_ret, kf_nil, kf_seq_n, kf_seq_e, kf_seq_r, kf_blk_n, kf_blk_e, kf_blk_r, kf_lp_n, kf_lp_e, kf_lp_r, kf_cut_n, kf_cut_e, kf_cut_r, mkTm, VCops, VCalt, istep, act, gd, applyE, wrapD, Opd.ev, get_mk, set_mk, set_mk0, tget16, tset16, tget_0, tset_0, tget_1, tset_1, tget_2, tset_2, tget_3, tset_3, tget_4, tset_4, tget_5, tset_5, tget_6, tset_6, tget_7, tset_7, tget_8, tset_8, tget_9, tset_9, tget_10, tset_10, tget_11, tset_11, tget_12, tset_12, tget_13, tset_13, tget_14, tset_14, tget_15, tset_15, D.un, D.gu, gus, IOp.opds, binD, fnPost, getRes, IRes.get, oneRes, D.out, outL, D.clos, closL, D.norow, norowL, D.lv, lvL, D.scal, scalL, D.cells, D.cell, D.cell', St.lk, obPut, obDel, List.lookup, cut, pickD, splice, fillParts, fillRows, elem_cons, newsOf, D.pl, D.forget, forgetL, Ob.forget, forgetO, eqCells, sg, leD, leDL, leOb, apartK, St.le, D.keys, keysL, D.rows, rowsL, obKeys, addKeys, reach, pos, D.ren, renL, Ob.ren, inM, outM, inObs, outObs, goneK, apartN, okNames_eq, okNms, obNms, namesOK_nil, namesOK_cons, freeOK_nil, freeOK_cons, D.frz, frzL, Ob.frz, frzO, St.frz, forgetLs, dropObs, putObs, hcall, freeOf, keeps, baseN, shD, isShift, shMax, k_bad, VCopsG, frz_nil, actx, actc, cnum, vwCut, St.frzT, St.opnT, St.clsT, D.opn, opnL, Ob.opn, opnO, VCou, VCcx, St.oneS, D.objI, D.objK, scrL, D.scr, St.opnS, St.clsS, D.cellS, D.fzs, fzsL, k_mrk, IOper.gh, ir_wire_CheckMessage, h1, h2, h3, h4, h5, h6, hgl, sp_Check, cfgD, isCfg, isLb_lbc, cfgOf, lbL_lbc, msgD, msgC]
    exact ⟨fun q => (e1 q).symm, fun q => ⟨fun _ => (e2 q).symm, fun x y => absurd (hk2 x) (by omega)⟩⟩
  · obtain ⟨a, b, c, d, e, f, g, h, hp⟩ := parts_eq kind
    have hel : elem msgT kind.toNat = [.bool a, .bool b, .bool c, .bool d, .bool e, .bool f, .bool g, .bool h] := by
      rw [elem_parts (by omega) (by omega), hp]; rfl
    have hk1 : ¬ kind < 1 := by omega
    have hk2 : ¬ 9 < kind := by omega
    have hlen : msgT.length = 10 := rfl
    simp (implicitDefEqProofs := false) (maxSteps := 10000000) [k_seq, k_block, k_skip, k_reg, k_alt, k_cond, k_exit, k_ret, kf_nil, kf_seq_n, kf_seq_e, kf_seq_r, kf_blk_n, kf_blk_e, kf_blk_r, kf_lp_n, kf_lp_e, kf_lp_r, kf_cut_n, kf_cut_e, kf_cut_r, mkTm, VCops, VCalt, istep, act, gd, applyE, wrapD, Opd.ev, get_mk, set_mk, set_mk0, tget16, tset16, tget_0, tset_0, tget_1, tset_1, tget_2, tset_2, tget_3, tset_3, tget_4, tset_4, tget_5, tset_5, tget_6, tset_6, tget_7, tset_7, tget_8, tset_8, tget_9, tset_9, tget_10, tset_10, tget_11, tset_11, tget_12, tset_12, tget_13, tset_13, tget_14, tset_14, tget_15, tset_15, D.un, D.gu, gus, IOp.opds, binD, fnPost, getRes, IRes.get, oneRes, D.out, outL, D.clos, closL, D.norow, norowL, D.lv, lvL, D.scal, scalL, D.cells, D.cell, D.cell', St.lk, obPut, obDel, List.lookup, cut, pickD, splice, fillParts, fillRows, elem_cons, newsOf, D.pl, D.forget, forgetL, Ob.forget, forgetO, eqCells, sg, leD, leDL, leOb, apartK, St.le, D.keys, keysL, D.rows, rowsL, obKeys, addKeys, reach, pos, D.ren, renL, Ob.ren, inM, outM, inObs, outObs, goneK, apartN, okNames_eq, okNms, obNms, namesOK_nil, namesOK_cons, freeOK_nil, freeOK_cons, D.frz, frzL, Ob.frz, frzO, St.frz, forgetLs, dropObs, putObs, hcall, freeOf, keeps, baseN, shD, isShift, shMax, k_bad, VCopsG, frz_nil, actx, actc, cnum, vwCut, St.frzT, St.opnT, St.clsT, D.opn, opnL, Ob.opn, opnO, VCou, VCcx, St.oneS, D.objI, D.objK, scrL, D.scr, St.opnS, St.clsS, D.cellS, D.fzs, fzsL, k_mrk, IOper.gh, ir_wire_CheckMessage, h1, h2, h3, h4, h5, h6, hgl, hel, hk1, hk2, hlen, sp_Check, sp_wtxn, sp_key, sp_value, sp_ask, sp_code, cfgD, isCfg, isLb_lbc, cfgOf, lbL_lbc, msgD, msgC]
    have e1 : check S ls p ≠ 0 → chkM S ls p ⟨kind, frm, to, site, n, label, key, value, version, ask, yes, code⟩ = check S ls p := fun q => by rw [chkM, if_pos q]
    have e2 : check S ls p = 0 → ¬ okRange S ls.length ⟨kind, frm, to, site, n, label, key, value, version, ask, yes, code⟩ → chkM S ls p ⟨kind, frm, to, site, n, label, key, value, version, ask, yes, code⟩ = 2 := fun q q2 => by rw [chkM, if_neg (by simp [q]), if_neg hk, if_pos q2]
    have e3 : check S ls p = 0 → okRange S ls.length ⟨kind, frm, to, site, n, label, key, value, version, ask, yes, code⟩ → ¬ okForm ⟨kind, frm, to, site, n, label, key, value, version, ask, yes, code⟩ → chkM S ls p ⟨kind, frm, to, site, n, label, key, value, version, ask, yes, code⟩ = 4 := fun q q2 q3 => by rw [chkM, if_neg (by simp [q]), if_neg hk, if_neg (by simp [q2]), if_pos q3]
    have e4 : check S ls p = 0 → okRange S ls.length ⟨kind, frm, to, site, n, label, key, value, version, ask, yes, code⟩ → okForm ⟨kind, frm, to, site, n, label, key, value, version, ask, yes, code⟩ → chkM S ls p ⟨kind, frm, to, site, n, label, key, value, version, ask, yes, code⟩ = 0 := fun q q2 q3 => by rw [chkM, if_neg (by simp [q]), if_neg hk, if_neg (by simp [q2]), if_neg (by simp [q3])]
    generalize chkM S ls p ⟨kind, frm, to, site, n, label, key, value, version, ask, yes, code⟩ = r at e1 e2 e3 e4 ⊢
    simp only [okRange, okForm, pt, hp] at e2 e3 e4
    simp only [List.getD_cons_zero, List.getD_cons_succ] at e2 e3 e4
    refine ⟨fun q => (e1 q).symm, fun q => ⟨fun q2 => (e2 q (by
      rintro ⟨a1, a2, a3, a4, a5, a6, a7, a8, a9, a10, a11, a12, a13⟩
      simp only [a5, a8, a9, a12, a13, Bool.true_eq_false, or_false] at q2
      omega)).symm, fun p1 p2 p3 p4 p5 p6 p7 p8 p9 p10 p11 p12 p13 => ?_⟩⟩
    have hr : 0 ≤ frm ∧ frm < S ∧ 0 ≤ to ∧ to < S ∧ okTxn S site n = true ∧ 0 ≤ label ∧ label < ↑ls.length ∧ okKey key = true ∧ okVal value = true ∧ 0 ≤ version ∧ version ≤ 1048576 ∧ okAsk ask = true ∧ okCode code = true := ⟨p1, p2, p3, p4, p5, p6, p7, p8, p9, p10, p11, p12, p13⟩
    replace e3 := e3 q hr
    replace e4 := e4 q hr
    refine ⟨by omega, by omega, ?_⟩
    have hb := okVal_bounds p9
    have hin : -9223372036854775808 ≤ value + version ∧ value + version ≤ 9223372036854775807 := by omega
    have im : ∀ (x : Bool) (P : Prop), (x = false → P) ↔ (x = true ∨ P) := fun x P => by cases x <;> simp
    have im2 : ∀ (x : Bool) (P : Prop), (x = false ∧ ¬ P) ↔ ¬ (x = true ∨ P) := fun x P => by cases x <;> simp
    have im3 : (f = false ∧ yes = true) ↔ ¬ (f = true ∨ yes = false) := by cases f <;> cases yes <;> simp
    have imc : (¬ code = 0 → value + version = 0) ↔ (code = 0 ∨ value + version = 0) := by
      by_cases h : code = 0 <;> simp [h]
    have imc2 : (¬ code = 0 ∧ ¬ value + version = 0) ↔ ¬ (code = 0 ∨ value + version = 0) := by
      by_cases h : code = 0 <;> simp [h]
    rw [im a (label = 0), im b (key = 0), im c (value = 0), im d (version = 0), im e (ask = 0), im f (yes = false), im g (code = 0)] at e3 e4
    rw [im a (label = 0), im b (key = 0), im c (value = 0), im d (version = 0), im e (ask = 0), im f (yes = false), im g (code = 0), im2 a (label = 0), im2 b (key = 0), im2 c (value = 0), im2 d (version = 0), im2 e (ask = 0), im3, im2 g (code = 0), imc, imc2]
    generalize (a = true ∨ label = 0) = A at e3 e4 ⊢
    generalize (b = true ∨ key = 0) = B at e3 e4 ⊢
    generalize (c = true ∨ value = 0) = C at e3 e4 ⊢
    generalize (d = true ∨ version = 0) = D at e3 e4 ⊢
    generalize (e = true ∨ ask = 0) = E at e3 e4 ⊢
    generalize (f = true ∨ yes = false) = F at e3 e4 ⊢
    generalize (g = true ∨ code = 0) = G at e3 e4 ⊢
    generalize (code = 0 ∨ value + version = 0) = H at e3 e4 ⊢
    clear e1 e2 hel hp hgl h1 h2 h3 h4 h5 h6 im im2 im3 imc imc2 hx hy hk hk1 hk2 hlen hr hb p1 p2 p3 p4 p5 p6 p7 p8 p9 p10 p11 p12 p13 q
    repeat' (first | (intro _) | (apply And.intro))
    all_goals first | assumption | exact hin.1 | exact hin.2 | grind
end
end Go.Proofs.YtopdccbcknlepaaDoor
