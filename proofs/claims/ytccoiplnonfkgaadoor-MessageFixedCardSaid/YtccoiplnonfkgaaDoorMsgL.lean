/-
  The laws on messages as bytes answer true on data. Conditions: those of the specifications' 'pre', and that the functions that are called are what theirs say.
-/
import Derived.Test.YtccoiplnonfkgaaDoorWrM
import Derived.Test.YtccoiplnonfkgaaDoorWrL
set_option linter.unusedVariables false
set_option linter.unusedSimpArgs false
namespace Go.Proofs.YtccoiplnonfkgaaDoor
open Go Go.Vcg

theorem okBytes_be (k : Nat) (n : Int) : okBytes (be k n) := by
  intro b hb
  simp only [be, List.mem_map] at hb
  obtain ⟨t, _, rfl⟩ := hb
  simp only [byteAt]; omega
theorem okBytes_append {a b : List Int} (h : okBytes a) (g : okBytes b) : okBytes (a ++ b) := fun x hx => by
  rcases List.mem_append.1 hx with hx | hx
  · exact h x hx
  · exact g x hx
theorem okBytes_optE {b : Bool} {l : List Int} (h : okBytes l) : okBytes (optE b l) := by
  cases b
  · intro x hx; simp [optE] at hx
  · simpa [optE] using h
theorem okBytes_encM (m : Ms) : okBytes (encM m) := by
  unfold encM
  repeat' apply okBytes_append
  all_goals first | exact okBytes_be _ _ | exact okBytes_optE (okBytes_be _ _)

def sp_MessageBack : Sp := { pre := fun ds => ∃ s ns r t, ds = [.int .i64 s, intsD ns, rawD r, .int .u8 t] ∧ inR .i64 s ∧ okInts ns ∧ okRaw r ∧ inR .u8 t, F := fun _ => .bool true }
def sp_MessageTorn : Sp := { pre := fun ds => ∃ s ns r t, ds = [.int .i64 s, intsD ns, rawD r, .int .i64 t] ∧ inR .i64 s ∧ okInts ns ∧ okRaw r ∧ inR .i64 t, F := fun _ => .bool true }

theorem enc_F {S P : Int} {ls : List (Int × Int)} {m : Ms} (h : chkM S ls P m = 0) : sp_EncodeMessage.F [.agg [.int .i64 S, .fz 2 (ls.map lbc), .int .i64 P], .agg (msgC m)] = .tup [.fz 1 ((encM m).map b8), .int .i64 0] := by
  have e1 : D.agg [.int .i64 S, .fz 2 (ls.map lbc), .int .i64 P] = cfgD S ls P := rfl
  have e2 : D.agg (msgC m) = msgD m := rfl
  rw [e1, e2]
  simp only [sp_EncodeMessage, cfgOf_cfgD, msgOf_msgD, h, bytesD]
  simp
theorem enc_pre {S P : Int} {ls : List (Int × Int)} {m : Ms} (hok : okSL (cfgD S ls P)) : sp_EncodeMessage.pre [.agg [.int .i64 S, .fz 2 (ls.map lbc), .int .i64 P], .agg (msgC m)] = True := by
  simp only [sp_EncodeMessage, eq_iff_iff, iff_true]
  exact ⟨_, _, rfl, hok.1, rfl, hok.2.2.1, hok.2.2.2.2⟩
theorem dec_F {S P : Int} {ls : List (Int × Int)} {bs : List Int} {m : Ms} {e : Int} (h : dmsg S ls P bs = (m, e)) : sp_DecodeMessage.F [.agg [.int .i64 S, .fz 2 (ls.map lbc), .int .i64 P], .fz 1 (bs.map b8)] = .tup [.agg (msgC m), .int .i64 e] := by
  have e1 : D.agg [.int .i64 S, .fz 2 (ls.map lbc), .int .i64 P] = cfgD S ls P := rfl
  have e2 : D.fz 1 (bs.map b8) = bytesD bs := rfl
  rw [e1, e2]
  simp only [sp_DecodeMessage, cfgOf_cfgD, bytesI_bytesD, h, msgD]
theorem dec_pre {S P : Int} {ls : List (Int × Int)} {bs : List Int} (hok : okSL (cfgD S ls P)) (hb : okBytes bs) (hl : bs.length ≤ 140737488355328) : sp_DecodeMessage.pre [.agg [.int .i64 S, .fz 2 (ls.map lbc), .int .i64 P], .fz 1 (bs.map b8)] = True := by
  simp only [sp_DecodeMessage, eq_iff_iff, iff_true]
  exact ⟨_, bs, rfl, hok.1, hb, hl⟩

section
variable {T : Tb}
set_option maxRecDepth 100000 in
set_option maxHeartbeats 4000000 in
theorem v_MessageBack (h1 : T.sp n_reredoskeep_Config = some sp_Config) (h2 : T.sp n_reredoskeep_Message = some sp_Message) (h3 : T.sp n_wire_EncodeMessage = some sp_EncodeMessage) (h4 : T.sp n_wire_DecodeMessage = some sp_DecodeMessage) (h5 : T.sp n_wire_CheckMessage = some sp_CheckMessage) : Verified T ir_reredoskeep_MessageBack sp_MessageBack := by
  refine Verified.mk ?_
  rintro ds ⟨s, ns, r, t, rfl, hs, hns, hr, ht⟩
  have b1 := pk_bounds s 3 (by decide)
  have b2 := pk_bounds 1 4 (by decide)
  have c1 := check_config (pk s 3) (pk 1 4) ns b1 b2
  have hg := cfgLs_good ns
  have hok := okSL_config (pk s 3) (1 + pk 1 4) ns b1
  have hone : inR .i64 1 := by simp only [inR]; omega
  have e4 : sp_Config.pre [.int .i64 s, .fz 1 (ns.map ic), .int .i64 1] = True := by simp [sp_Config]; exact ⟨s, ns, 1, ⟨rfl, rfl, rfl⟩, hs, hns, hone⟩
  have e3 : sp_Config.F [.int .i64 s, .fz 1 (ns.map ic), .int .i64 1] = cfgD (1 + pk s 3) (cfgLs ns) (1 + pk 1 4) := by simp [sp_Config, intsOf, intOf_ic]
  have m0 := mkMsg_ok (1 + pk s 3) (1 + pk 1 4) (cfgLs ns) r c1 (by omega) (by omega)
  generalize cfgLs ns = ls at c1 hg e3 hok m0
  generalize 1 + pk s 3 = S at c1 e3 hok m0 b1
  generalize 1 + pk 1 4 = P at c1 e3 hok m0 b2
  have hS4 : S ≤ 4 := hok.2.2.1
  have hL6 : ls.length ≤ 6 := by have := hok.2.2.2.2; simpa [cfgOf_cfgD] using this
  have g4 : sp_Message.pre [.agg [.int .i64 S, .fz 2 (ls.map lbc), .int .i64 P], .agg (rawC r)] = True := by simp [sp_Message]; exact ⟨_, r, ⟨rfl, rfl⟩, hok, hr⟩
  have g3 : sp_Message.F [.agg [.int .i64 S, .fz 2 (ls.map lbc), .int .i64 P], .agg (rawC r)] = .agg (msgC (mkMsg S ls.length r)) := by
    simp [sp_Message, cfgOf, lbL_lbc]; rfl
  simp only [rawC] at g3 g4
  have hx1 : sp_Message.hx = none := rfl
  have hx2 : sp_Config.hx = none := rfl
  have hx3 : sp_EncodeMessage.hx = none := rfl
  have hx4 : sp_DecodeMessage.hx = none := rfl
  have hx5 : sp_CheckMessage.hx = none := rfl
  generalize mkMsg S ls.length r = m at g3 m0
  simp only [inR] at ht
  have q1 := enc_F m0
  have q2 := enc_pre (m := m) hok
  have q3 := dec_F (dmsg_enc m0 hS4 hL6)
  have q4 := dec_pre (bs := encM m) hok (okBytes_encM m) (by have := encM_len m; omega)
  have q5 := dec_F (dmsg_tail m0 hS4 hL6 t)
  have q6 := dec_pre (bs := encM m ++ [t]) hok (okBytes_append (okBytes_encM m) (fun x hx => by simp at hx; subst hx; omega)) (by have := encM_len m; simp; omega)
  have hlen := encM_len m
  have hch : sp_CheckMessage.F [.agg [.int .i64 S, .fz 2 (ls.map lbc), .int .i64 P], .agg (msgC m)] = .int .i64 0 := by
    have := m0
    simp [sp_CheckMessage, cfgOf, lbL_lbc, msgOf_msgD, msgOf, msgL, msgC]
    exact this
  have hcp : sp_CheckMessage.pre [.agg [.int .i64 S, .fz 2 (ls.map lbc), .int .i64 P], .agg (msgC m)] = True := by
    simp only [sp_CheckMessage, eq_iff_iff, iff_true]
    exact ⟨_, _, rfl, hok.1, rfl⟩
  generalize encM m = bs at q1 q2 q3 q4 q5 q6 hlen
  obtain ⟨kind, frm, to, site, n, label, key, value, version, ask, yes, code⟩ := m
  simp only [msgC, ms0, List.map_append, List.map_cons, List.map_nil, b8] at g3 q1 q2 q3 q4 q5 q6 hch hcp
  simp (implicitDefEqProofs := false) (maxSteps := 10000000) [k_seq, k_block, k_skip, k_reg, k_alt, k_cond, k_exit, k_ret, kf_nil, kf_seq_n, kf_seq_e, kf_seq_r, kf_blk_n, kf_blk_e, kf_blk_r, kf_lp_n, kf_lp_e, kf_lp_r, kf_cut_n, kf_cut_e, kf_cut_r, mkTm, VCops, VCalt, istep, act, gd, applyE, wrapD, Opd.ev, get_mk, set_mk, set_mk0, tget16, tset16, tget_0, tset_0, tget_1, tset_1, tget_2, tset_2, tget_3, tset_3, tget_4, tset_4, tget_5, tset_5, tget_6, tset_6, tget_7, tset_7, tget_8, tset_8, tget_9, tset_9, tget_10, tset_10, tget_11, tset_11, tget_12, tset_12, tget_13, tset_13, tget_14, tset_14, tget_15, tset_15, D.un, D.gu, gus, IOp.opds, binD, fnPost, getRes, IRes.get, oneRes, D.out, outL, D.clos, closL, D.norow, norowL, D.lv, lvL, D.scal, scalL, D.cells, D.cell, D.cell', St.lk, obPut, obDel, List.lookup, cut, pickD, splice, fillParts, fillRows, elem_cons, newsOf, D.pl, D.forget, forgetL, Ob.forget, forgetO, eqCells, sg, leD, leDL, leOb, apartK, St.le, D.keys, keysL, D.rows, rowsL, obKeys, addKeys, reach, pos, D.ren, renL, Ob.ren, inM, outM, inObs, outObs, goneK, apartN, okNames_eq, okNms, obNms, namesOK_nil, namesOK_cons, freeOK_nil, freeOK_cons, D.frz, frzL, Ob.frz, frzO, St.frz, forgetLs, dropObs, putObs, hcall, freeOf, keeps, baseN, shD, isShift, shMax, k_bad, VCopsG, frz_nil, actx, actc, cnum, St.frzT, St.opnT, St.clsT, D.opn, opnL, Ob.opn, opnO, ir_reredoskeep_MessageBack, h1, h2, h3, h4, h5, e3, e4, g3, g4, hx1, hx2, hx3, hx4, hx5, q1, q2, q3, q4, q5, q6, hch, hcp, intsD, rawD, rawC, sp_MessageBack, cfgD]
  omega

set_option maxRecDepth 100000 in
set_option maxHeartbeats 4000000 in
theorem v_MessageTorn (h0 : T.sp n_reredoskeep_picked = some sp_picked) (h1 : T.sp n_reredoskeep_Config = some sp_Config) (h2 : T.sp n_reredoskeep_Message = some sp_Message) (h3 : T.sp n_wire_EncodeMessage = some sp_EncodeMessage) (h4 : T.sp n_wire_DecodeMessage = some sp_DecodeMessage) : Verified T ir_reredoskeep_MessageTorn sp_MessageTorn := by
  refine Verified.mk ?_
  rintro ds ⟨s, ns, r, t, rfl, hs, hns, hr, ht⟩
  have b1 := pk_bounds s 3 (by decide)
  have b2 := pk_bounds 1 4 (by decide)
  have c1 := check_config (pk s 3) (pk 1 4) ns b1 b2
  have hg := cfgLs_good ns
  have hok := okSL_config (pk s 3) (1 + pk 1 4) ns b1
  have hone : inR .i64 1 := by simp only [inR]; omega
  have e4 : sp_Config.pre [.int .i64 s, .fz 1 (ns.map ic), .int .i64 1] = True := by simp [sp_Config]; exact ⟨s, ns, 1, ⟨rfl, rfl, rfl⟩, hs, hns, hone⟩
  have e3 : sp_Config.F [.int .i64 s, .fz 1 (ns.map ic), .int .i64 1] = cfgD (1 + pk s 3) (cfgLs ns) (1 + pk 1 4) := by simp [sp_Config, intsOf, intOf_ic]
  have m0 := mkMsg_ok (1 + pk s 3) (1 + pk 1 4) (cfgLs ns) r c1 (by omega) (by omega)
  generalize cfgLs ns = ls at c1 hg e3 hok m0
  generalize 1 + pk s 3 = S at c1 e3 hok m0 b1
  generalize 1 + pk 1 4 = P at c1 e3 hok m0 b2
  have hS4 : S ≤ 4 := hok.2.2.1
  have hL6 : ls.length ≤ 6 := by have := hok.2.2.2.2; simpa [cfgOf_cfgD] using this
  have g4 : sp_Message.pre [.agg [.int .i64 S, .fz 2 (ls.map lbc), .int .i64 P], .agg (rawC r)] = True := by simp [sp_Message]; exact ⟨_, r, ⟨rfl, rfl⟩, hok, hr⟩
  have g3 : sp_Message.F [.agg [.int .i64 S, .fz 2 (ls.map lbc), .int .i64 P], .agg (rawC r)] = .agg (msgC (mkMsg S ls.length r)) := by
    simp [sp_Message, cfgOf, lbL_lbc]; rfl
  simp only [rawC] at g3 g4
  have hx0 : sp_picked.hx = none := rfl
  have hx1 : sp_Message.hx = none := rfl
  have hx2 : sp_Config.hx = none := rfl
  have hx3 : sp_EncodeMessage.hx = none := rfl
  have hx4 : sp_DecodeMessage.hx = none := rfl
  generalize mkMsg S ls.length r = m at g3 m0
  have hlen := encM_len m
  have hpos := encM_pos m
  have b3 := pk_bounds t (encM m).length (by omega)
  have q1 := enc_F m0
  have q2 := enc_pre (m := m) hok
  have q3 := dec_F (dmsg_torn m0 hS4 hL6 (pk t (encM m).length).toNat (by omega))
  have q4 := dec_pre (bs := (encM m).take (pk t (encM m).length).toNat) hok (fun x hx => okBytes_encM m x (List.mem_of_mem_take hx)) (by rw [List.length_take]; omega)
  have hmax : max ((encM m).length : Int) 1 = (encM m).length := by omega
  have hpp : sp_picked.pre [.int .i64 t, .int .i64 (encM m).length] = True := by
    simp only [sp_picked, eq_iff_iff, iff_true]; exact ⟨_, _, rfl, ht, by omega⟩
  have hpF : sp_picked.F [.int .i64 t, .int .i64 (encM m).length] = .int .i64 (pk t (encM m).length) := rfl
  generalize pk t (encM m).length = j at q3 q4 b3 hpF
  generalize encM m = bs at q1 q2 q3 q4 hlen hpos hmax hpp hpF b3
  obtain ⟨kind, frm, to, site, n, label, key, value, version, ask, yes, code⟩ := m
  simp only [msgC, ms0, List.map_take] at g3 q1 q2 q3 q4
  simp (implicitDefEqProofs := false) (maxSteps := 10000000) [k_seq, k_block, k_skip, k_reg, k_alt, k_cond, k_exit, k_ret, kf_nil, kf_seq_n, kf_seq_e, kf_seq_r, kf_blk_n, kf_blk_e, kf_blk_r, kf_lp_n, kf_lp_e, kf_lp_r, kf_cut_n, kf_cut_e, kf_cut_r, mkTm, VCops, VCalt, istep, act, gd, applyE, wrapD, Opd.ev, get_mk, set_mk, set_mk0, tget16, tset16, tget_0, tset_0, tget_1, tset_1, tget_2, tset_2, tget_3, tset_3, tget_4, tset_4, tget_5, tset_5, tget_6, tset_6, tget_7, tset_7, tget_8, tset_8, tget_9, tset_9, tget_10, tset_10, tget_11, tset_11, tget_12, tset_12, tget_13, tset_13, tget_14, tset_14, tget_15, tset_15, D.un, D.gu, gus, IOp.opds, binD, fnPost, getRes, IRes.get, oneRes, D.out, outL, D.clos, closL, D.norow, norowL, D.lv, lvL, D.scal, scalL, D.cells, D.cell, D.cell', St.lk, obPut, obDel, List.lookup, cut, pickD, splice, fillParts, fillRows, elem_cons, newsOf, D.pl, D.forget, forgetL, Ob.forget, forgetO, eqCells, sg, leD, leDL, leOb, apartK, St.le, D.keys, keysL, D.rows, rowsL, obKeys, addKeys, reach, pos, D.ren, renL, Ob.ren, inM, outM, inObs, outObs, goneK, apartN, okNames_eq, okNms, obNms, namesOK_nil, namesOK_cons, freeOK_nil, freeOK_cons, D.frz, frzL, Ob.frz, frzO, St.frz, forgetLs, dropObs, putObs, hcall, freeOf, keeps, baseN, shD, isShift, shMax, k_bad, VCopsG, frz_nil, actx, actc, cnum, St.frzT, St.opnT, St.clsT, D.opn, opnL, Ob.opn, opnO, ir_reredoskeep_MessageTorn, h0, h1, h2, h3, h4, e3, e4, g3, g4, hx0, hx1, hx2, hx3, hx4, q1, q2, q3, q4, hmax, hpp, hpF, intsD, rawD, rawC, sp_MessageTorn, cfgD]
  omega
end
end Go.Proofs.YtccoiplnonfkgaaDoor
