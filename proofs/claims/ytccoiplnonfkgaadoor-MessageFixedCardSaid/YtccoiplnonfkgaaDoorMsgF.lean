/-
  MessageFixed on data: what is read from bytes, written again, is those bytes; what cannot be read is nothing. Conditions: those of the specification's 'pre', and that the functions that are called are what theirs say.
-/
import Derived.Test.YtccoiplnonfkgaaDoorMsgL
import Derived.Test.YtccoiplnonfkgaaDoorWrI
set_option linter.unusedVariables false
set_option linter.unusedSimpArgs false
namespace Go.Proofs.YtccoiplnonfkgaaDoor
open Go Go.Vcg

theorem bytesOf_b8 : ∀ bs : List Int, bytesOf (bs.map b8) = some (bs.map fun n => UInt8.ofNat n.toNat)
  | [] => rfl
  | n :: bs => by
    have h := bytesOf_b8 bs
    simp only [List.map_cons, b8, bytesOf] at h ⊢
    rw [h]
    rfl

def sp_MessageFixed : Sp := { pre := fun ds => ∃ s ns bs, ds = [.int .i64 s, intsD ns, bytesD bs] ∧ inR .i64 s ∧ okInts ns ∧ okBytes bs ∧ bs.length ≤ 140737488355328, F := fun _ => .bool true }

section
variable {T : Tb}
set_option maxRecDepth 100000 in
set_option maxHeartbeats 4000000 in
theorem v_MessageFixed (h1 : T.sp n_reredoskeep_Config = some sp_Config) (h3 : T.sp n_wire_EncodeMessage = some sp_EncodeMessage) (h4 : T.sp n_wire_DecodeMessage = some sp_DecodeMessage) : Verified T ir_reredoskeep_MessageFixed sp_MessageFixed := by
  refine Verified.mk ?_
  rintro ds ⟨s, ns, bs, rfl, hs, hns, hb, hbl⟩
  have b1 := pk_bounds s 3 (by decide)
  have b2 := pk_bounds 1 4 (by decide)
  have c1 := check_config (pk s 3) (pk 1 4) ns b1 b2
  have hok := okSL_config (pk s 3) (1 + pk 1 4) ns b1
  have hone : inR .i64 1 := by simp only [inR]; omega
  have e4 : sp_Config.pre [.int .i64 s, .fz 1 (ns.map ic), .int .i64 1] = True := by simp [sp_Config]; exact ⟨s, ns, 1, ⟨rfl, rfl, rfl⟩, hs, hns, hone⟩
  have e3 : sp_Config.F [.int .i64 s, .fz 1 (ns.map ic), .int .i64 1] = cfgD (1 + pk s 3) (cfgLs ns) (1 + pk 1 4) := by simp [sp_Config, intsOf, intOf_ic]
  generalize cfgLs ns = ls at c1 e3 hok
  generalize 1 + pk s 3 = S at c1 e3 hok
  generalize 1 + pk 1 4 = P at c1 e3 hok
  have hx2 : sp_Config.hx = none := rfl
  have hx3 : sp_EncodeMessage.hx = none := rfl
  have hx4 : sp_DecodeMessage.hx = none := rfl
  have r4 : sp_DecodeMessage.pre [.agg [.int .i64 S, .fz 2 (ls.map lbc), .int .i64 P], .fz 1 (bs.map b8)] = True := dec_pre hok hb (by omega)
  have r6 : sp_DecodeMessage.pre [.agg [.int .i64 S, .fz 2 (ls.map lbc), .int .i64 P], .fz 1 []] = True := dec_pre (bs := []) hok (fun x hx => by simp at hx) (by simp)
  have r5 : sp_DecodeMessage.F [.agg [.int .i64 S, .fz 2 (ls.map lbc), .int .i64 P], .fz 1 []] = .tup [.agg (msgC ms0), .int .i64 5] := dec_F (bs := []) (dmsg_nil c1)
  have r3 : sp_DecodeMessage.F [.agg [.int .i64 S, .fz 2 (ls.map lbc), .int .i64 P], .fz 1 (bs.map b8)] = .tup [.agg (msgC (dmsg S ls P bs).1), .int .i64 (dmsg S ls P bs).2] := dec_F rfl
  by_cases he : (dmsg S ls P bs).2 = 0
  · obtain ⟨f1, f2⟩ := dmsg_fixed hb he
    rw [he] at r3
    have q1 := enc_F f2
    have q2 := enc_pre (m := (dmsg S ls P bs).1) hok
    rw [f1] at q1
    generalize (dmsg S ls P bs).1 = m at q1 q2 r3
    have hby := bytesOf_b8 bs
    have hlen : (bs.map b8).length = bs.length := List.length_map ..
    obtain ⟨kind, frm, to, site, n, label, key, value, version, ask, yes, code⟩ := m
    simp only [msgC, ms0] at q1 q2 r3 r5
    simp (implicitDefEqProofs := false) (maxSteps := 10000000) [k_seq, k_block, k_skip, k_reg, k_alt, k_cond, k_exit, k_ret, kf_nil, kf_seq_n, kf_seq_e, kf_seq_r, kf_blk_n, kf_blk_e, kf_blk_r, kf_lp_n, kf_lp_e, kf_lp_r, kf_cut_n, kf_cut_e, kf_cut_r, mkTm, VCops, VCalt, istep, act, gd, applyE, wrapD, Opd.ev, get_mk, set_mk, set_mk0, tget16, tset16, tget_0, tset_0, tget_1, tset_1, tget_2, tset_2, tget_3, tset_3, tget_4, tset_4, tget_5, tset_5, tget_6, tset_6, tget_7, tset_7, tget_8, tset_8, tget_9, tset_9, tget_10, tset_10, tget_11, tset_11, tget_12, tset_12, tget_13, tset_13, tget_14, tset_14, tget_15, tset_15, D.un, D.gu, gus, IOp.opds, binD, fnPost, getRes, IRes.get, oneRes, D.out, outL, D.clos, closL, D.norow, norowL, D.lv, lvL, D.scal, scalL, D.cells, D.cell, D.cell', St.lk, obPut, obDel, List.lookup, cut, pickD, splice, fillParts, fillRows, elem_cons, newsOf, D.pl, D.forget, forgetL, Ob.forget, forgetO, eqCells, sg, leD, leDL, leOb, apartK, St.le, D.keys, keysL, D.rows, rowsL, obKeys, addKeys, reach, pos, D.ren, renL, Ob.ren, inM, outM, inObs, outObs, goneK, apartN, okNames_eq, okNms, obNms, namesOK_nil, namesOK_cons, freeOK_nil, freeOK_cons, D.frz, frzL, Ob.frz, frzO, St.frz, forgetLs, dropObs, putObs, hcall, freeOf, keeps, baseN, shD, isShift, shMax, k_bad, VCopsG, frz_nil, actx, actc, cnum, St.frzT, St.opnT, St.clsT, D.opn, opnL, Ob.opn, opnO, ir_reredoskeep_MessageFixed, h1, h3, h4, e3, e4, hx2, hx3, hx4, q1, q2, r3, r4, r5, r6, hby, intsD, bytesD, sp_MessageFixed, cfgD]
    omega
  · have f1 := dmsg_bad he
    rw [f1] at r3
    generalize (dmsg S ls P bs).2 = e at he r3
    have hby := bytesOf_b8 bs
    simp only [msgC, ms0] at r3 r5
    simp (implicitDefEqProofs := false) (maxSteps := 10000000) [k_seq, k_block, k_skip, k_reg, k_alt, k_cond, k_exit, k_ret, kf_nil, kf_seq_n, kf_seq_e, kf_seq_r, kf_blk_n, kf_blk_e, kf_blk_r, kf_lp_n, kf_lp_e, kf_lp_r, kf_cut_n, kf_cut_e, kf_cut_r, mkTm, VCops, VCalt, istep, act, gd, applyE, wrapD, Opd.ev, get_mk, set_mk, set_mk0, tget16, tset16, tget_0, tset_0, tget_1, tset_1, tget_2, tset_2, tget_3, tset_3, tget_4, tset_4, tget_5, tset_5, tget_6, tset_6, tget_7, tset_7, tget_8, tset_8, tget_9, tset_9, tget_10, tset_10, tget_11, tset_11, tget_12, tset_12, tget_13, tset_13, tget_14, tset_14, tget_15, tset_15, D.un, D.gu, gus, IOp.opds, binD, fnPost, getRes, IRes.get, oneRes, D.out, outL, D.clos, closL, D.norow, norowL, D.lv, lvL, D.scal, scalL, D.cells, D.cell, D.cell', St.lk, obPut, obDel, List.lookup, cut, pickD, splice, fillParts, fillRows, elem_cons, newsOf, D.pl, D.forget, forgetL, Ob.forget, forgetO, eqCells, sg, leD, leDL, leOb, apartK, St.le, D.keys, keysL, D.rows, rowsL, obKeys, addKeys, reach, pos, D.ren, renL, Ob.ren, inM, outM, inObs, outObs, goneK, apartN, okNames_eq, okNms, obNms, namesOK_nil, namesOK_cons, freeOK_nil, freeOK_cons, D.frz, frzL, Ob.frz, frzO, St.frz, forgetLs, dropObs, putObs, hcall, freeOf, keeps, baseN, shD, isShift, shMax, k_bad, VCopsG, frz_nil, actx, actc, cnum, St.frzT, St.opnT, St.clsT, D.opn, opnL, Ob.opn, opnO, ir_reredoskeep_MessageFixed, h1, h3, h4, e3, e4, hx2, hx3, hx4, r3, r4, r5, r6, he, intsD, bytesD, sp_MessageFixed, cfgD]
    omega
end
end Go.Proofs.YtccoiplnonfkgaaDoor
