/-
  The laws on records as bytes answer true on data. Conditions: those of the specifications' 'pre', and that the functions that are called are what theirs say.
-/
import Derived.Test.YteaonhddolfppaaDoorRecR
set_option linter.unusedVariables false
set_option linter.unusedSimpArgs false
namespace Go.Proofs.YteaonhddolfppaaDoor
open Go Go.Vcg

theorem okBytes_be (k : Nat) (n : Int) : okBytes (be k n) := by
  intro b hb
  simp only [be, List.mem_map] at hb
  obtain ⟨t, _, rfl⟩ := hb
  simp only [byteAt]; omega
theorem okBytes_append {a b : List Int} (h : okBytes a) (g : okBytes b) : okBytes (a ++ b) := fun x hx => by
  rcases List.mem_append.1 hx with hx | hx
  · exact h x hx
  · exact g x hx
theorem okBytes_optE {b : Bool} {l : List Int} (h : okBytes l) : okBytes (optE b l) := by
  cases b
  · intro x hx; simp [optE] at hx
  · simpa [optE] using h
theorem okBytes_sitesB (l : List Int) : okBytes (sitesB l) := by
  induction l with
  | nil => intro x hx; simp [sitesB] at hx
  | cons x l ih => rw [sitesB_cons]; exact okBytes_append (okBytes_be _ _) ih
theorem okBytes_encR (r : Rc) : okBytes (encR r) := by
  unfold encR
  repeat' apply okBytes_append
  all_goals first | exact okBytes_be _ _ | exact okBytes_optE (okBytes_be _ _) | exact okBytes_optE (okBytes_append (okBytes_be _ _) (okBytes_sitesB _))
theorem bytesOf_b8 : ∀ bs : List Int, bytesOf (bs.map b8) = some (bs.map fun n => UInt8.ofNat n.toNat)
  | [] => rfl
  | n :: bs => by
    have h := bytesOf_b8 bs
    simp only [List.map_cons, b8, bytesOf] at h ⊢
    rw [h]
    rfl

def sp_RecordBack : Sp := { pre := fun ds => ∃ s ns r t at', ds = [.int .i64 s, intsD ns, rawD r, .int .u8 t, .int .i64 at'] ∧ inR .i64 s ∧ okInts ns ∧ okRaw r ∧ inR .u8 t ∧ inR .i64 at', F := fun _ => .bool true }
def sp_RecordFixed : Sp := { pre := fun ds => ∃ s ns bs, ds = [.int .i64 s, intsD ns, bytesD bs] ∧ inR .i64 s ∧ okInts ns ∧ okBytes bs ∧ bs.length ≤ 140737488355328, F := fun _ => .bool true }

theorem encR_F {S P : Int} {ls : List (Int × Int)} {m : Rc} (h : chkR S ls P m = 0) : sp_EncodeRecord.F [.agg [.int .i64 S, .fz 2 (ls.map lbc), .int .i64 P], .agg (recC m)] = .tup [.fz 1 ((encR m).map b8), .int .i64 0] := by
  have e1 : D.agg [.int .i64 S, .fz 2 (ls.map lbc), .int .i64 P] = cfgD S ls P := rfl
  have e2 : D.agg (recC m) = recD m := rfl
  rw [e1, e2]
  simp only [sp_EncodeRecord, cfgOf_cfgD, recOf_recD, h, bytesD]
  simp
theorem encR_pre {S P : Int} {ls : List (Int × Int)} {m : Rc} (hok : okSL (cfgD S ls P)) (hl : m.sites.length ≤ 9223372036854775807) : sp_EncodeRecord.pre [.agg [.int .i64 S, .fz 2 (ls.map lbc), .int .i64 P], .agg (recC m)] = True := by
  simp only [sp_EncodeRecord, eq_iff_iff, iff_true]
  exact ⟨_, m, rfl, hok.1, hl, hok.2.2.1⟩
theorem decR_F {S P : Int} {ls : List (Int × Int)} {bs : List Int} {m : Rc} {e : Int} (h : drec S ls P bs = (m, e)) : sp_DecodeRecord.F [.agg [.int .i64 S, .fz 2 (ls.map lbc), .int .i64 P], .fz 1 (bs.map b8)] = .tup [.agg (recC m), .int .i64 e] := by
  have e1 : D.agg [.int .i64 S, .fz 2 (ls.map lbc), .int .i64 P] = cfgD S ls P := rfl
  have e2 : D.fz 1 (bs.map b8) = bytesD bs := rfl
  rw [e1, e2]
  simp only [sp_DecodeRecord, cfgOf_cfgD, bytesI_bytesD, h, recD]
theorem decR_pre {S P : Int} {ls : List (Int × Int)} {bs : List Int} (hok : okSL (cfgD S ls P)) (hb : okBytes bs) (hl : bs.length ≤ 140737488355328) : sp_DecodeRecord.pre [.agg [.int .i64 S, .fz 2 (ls.map lbc), .int .i64 P], .fz 1 (bs.map b8)] = True := by
  simp only [sp_DecodeRecord, eq_iff_iff, iff_true]
  exact ⟨_, bs, rfl, hok.1, hb, hl⟩

section
variable {T : Tb}
set_option maxRecDepth 100000 in
set_option maxHeartbeats 4000000 in
theorem v_RecordBack (h0 : T.sp n_reredoskeep_picked = some sp_picked) (h1 : T.sp n_reredoskeep_Config = some sp_Config) (h2 : T.sp n_reredoskeep_Record = some sp_Record) (h3 : T.sp n_wire_EncodeRecord = some sp_EncodeRecord) (h4 : T.sp n_wire_DecodeRecord = some sp_DecodeRecord) (h5 : T.sp n_reredoskeep_sameRecord = some sp_sameRecord) : Verified T ir_reredoskeep_RecordBack sp_RecordBack := by
  refine Verified.mk ?_
  rintro ds ⟨s, ns, r, t, at', rfl, hs, hns, hr, ht, hat⟩
  have b1 := pk_bounds s 3 (by decide)
  have b2 := pk_bounds 1 4 (by decide)
  have c1 := check_config (pk s 3) (pk 1 4) ns b1 b2
  have hok := okSL_config (pk s 3) (1 + pk 1 4) ns b1
  have hone : inR .i64 1 := by simp only [inR]; omega
  have e4 : sp_Config.pre [.int .i64 s, .fz 1 (ns.map ic), .int .i64 1] = True := by simp [sp_Config]; exact ⟨s, ns, 1, ⟨rfl, rfl, rfl⟩, hs, hns, hone⟩
  have e3 : sp_Config.F [.int .i64 s, .fz 1 (ns.map ic), .int .i64 1] = cfgD (1 + pk s 3) (cfgLs ns) (1 + pk 1 4) := by simp [sp_Config, intsOf, intOf_ic]
  have m0 := mkRec_ok (1 + pk s 3) (1 + pk 1 4) (cfgLs ns) r c1 (by omega)
  generalize cfgLs ns = ls at c1 e3 hok m0
  have hS1 : 0 ≤ 1 + pk s 3 := by omega
  generalize 1 + pk s 3 = S at c1 e3 hok m0 hS1
  generalize 1 + pk 1 4 = P at c1 e3 hok m0
  have hS4 : S ≤ 4 := hok.2.2.1
  have g4 : sp_Record.pre [.agg [.int .i64 S, .fz 2 (ls.map lbc), .int .i64 P], .agg (rawC r)] = True := by simp [sp_Record]; exact ⟨_, r, ⟨rfl, rfl⟩, hok, hr⟩
  have g3 : sp_Record.F [.agg [.int .i64 S, .fz 2 (ls.map lbc), .int .i64 P], .agg (rawC r)] = .agg (recC (mkRec S r)) := by
    simp [sp_Record, cfgOf, lbL_lbc]; rfl
  simp only [rawC] at g3 g4
  have hx0 : sp_picked.hx = none := rfl
  have hx1 : sp_Record.hx = none := rfl
  have hx2 : sp_Config.hx = none := rfl
  have hx3 : sp_EncodeRecord.hx = none := rfl
  have hx4 : sp_DecodeRecord.hx = none := rfl
  have hx5 : sp_sameRecord.hx = none := rfl
  have hsl := mkRec_sites S r hS4
  generalize mkRec S r = m at g3 m0 hsl
  simp only [inR] at ht
  have hlen := encR_len m
  have hpos := encR_pos m
  have b3 := pk_bounds at' (encR m).length (by omega)
  have q1 := encR_F m0
  have q2 := encR_pre (m := m) hok (by omega)
  have q3 := decR_F (drec_enc m0 hS4 hS1)
  have q4 := decR_pre (bs := encR m) hok (okBytes_encR m) (by omega)
  have q5 := decR_F (drec_tail m0 hS4 hS1 t)
  have q6 := decR_pre (bs := encR m ++ [t]) hok (okBytes_append (okBytes_encR m) (fun x hx => by simp at hx; subst hx; omega)) (by simp; omega)
  have q7 := decR_F (drec_torn m0 hS4 hS1 (pk at' (encR m).length).toNat (by omega))
  have q8 := decR_pre (bs := (encR m).take (pk at' (encR m).length).toNat) hok (fun x hx => okBytes_encR m x (List.mem_of_mem_take hx)) (by rw [List.length_take]; omega)
  have hmax : max ((encR m).length : Int) 1 = (encR m).length := by omega
  have hpp : sp_picked.pre [.int .i64 at', .int .i64 (encR m).length] = True := by
    simp only [sp_picked, eq_iff_iff, iff_true]; exact ⟨_, _, rfl, hat, by omega⟩
  have hpF : sp_picked.F [.int .i64 at', .int .i64 (encR m).length] = .int .i64 (pk at' (encR m).length) := rfl
  have hsF : sp_sameRecord.F [.agg (recC m), .agg (recC m)] = .bool true := by
    have e : D.agg (recC m) = recD m := rfl
    simp only [sp_sameRecord, e, recOf_recD, decide_true]
  have hsP : sp_sameRecord.pre [.agg (recC m), .agg (recC m)] = True := by
    simp only [sp_sameRecord, eq_iff_iff, iff_true]
    exact ⟨m, m, rfl, by omega, by omega⟩
  generalize pk at' (encR m).length = j at q7 q8 b3 hpF
  have hle : (encR m).length ≤ 19 := by omega
  clear hlen
  generalize encR m = bs at q1 q2 q3 q4 q5 q6 q7 q8 hle hpos hmax hpp hpF b3
  obtain ⟨kind, site, n, key, value, ask, yes, sites⟩ := m
  simp only [recC, rc0, List.map_append, List.map_cons, List.map_nil, List.map_take, b8] at g3 q1 q2 q3 q4 q5 q6 q7 q8 hsF hsP
  simp (implicitDefEqProofs := false) (maxSteps := 10000000) [k_seq, k_block, k_skip, k_reg, k_alt, k_cond, k_exit, k_ret, kf_nil, kf_seq_n, kf_seq_e, kf_seq_r, kf_blk_n, kf_blk_e, kf_blk_r, kf_lp_n, kf_lp_e, kf_lp_r, kf_cut_n, kf_cut_e, kf_cut_r, mkTm, VCops, VCalt, istep, act, gd, applyE, wrapD, Opd.ev, get_mk, set_mk, set_mk0, tget16, tset16, tget_0, tset_0, tget_1, tset_1, tget_2, tset_2, tget_3, tset_3, tget_4, tset_4, tget_5, tset_5, tget_6, tset_6, tget_7, tset_7, tget_8, tset_8, tget_9, tset_9, tget_10, tset_10, tget_11, tset_11, tget_12, tset_12, tget_13, tset_13, tget_14, tset_14, tget_15, tset_15, D.un, D.gu, gus, IOp.opds, binD, fnPost, getRes, IRes.get, oneRes, D.out, outL, D.clos, closL, D.norow, norowL, D.lv, lvL, D.scal, scalL, D.cells, D.cell, D.cell', St.lk, obPut, obDel, List.lookup, cut, pickD, splice, fillParts, fillRows, elem_cons, newsOf, D.pl, D.forget, forgetL, Ob.forget, forgetO, eqCells, sg, leD, leDL, leOb, apartK, St.le, D.keys, keysL, D.rows, rowsL, obKeys, addKeys, reach, pos, D.ren, renL, Ob.ren, inM, outM, inObs, outObs, goneK, apartN, okNames_eq, okNms, obNms, namesOK_nil, namesOK_cons, freeOK_nil, freeOK_cons, D.frz, frzL, Ob.frz, frzO, St.frz, forgetLs, dropObs, putObs, hcall, freeOf, keeps, baseN, shD, isShift, shMax, k_bad, VCopsG, frz_nil, actx, actc, cnum, St.frzT, St.opnT, St.clsT, D.opn, opnL, Ob.opn, opnO, ir_reredoskeep_RecordBack, h0, h1, h2, h3, h4, h5, e3, e4, g3, g4, hx0, hx1, hx2, hx3, hx4, hx5, q1, q2, q3, q4, q5, q6, q7, q8, hmax, hpp, hpF, hsF, hsP, intsD, rawD, rawC, sp_RecordBack, cfgD]
  omega

set_option maxRecDepth 100000 in
set_option maxHeartbeats 4000000 in
theorem v_RecordFixed (h1 : T.sp n_reredoskeep_Config = some sp_Config) (h3 : T.sp n_wire_EncodeRecord = some sp_EncodeRecord) (h4 : T.sp n_wire_DecodeRecord = some sp_DecodeRecord) : Verified T ir_reredoskeep_RecordFixed sp_RecordFixed := by
  refine Verified.mk ?_
  rintro ds ⟨s, ns, bs, rfl, hs, hns, hb, hbl⟩
  have b1 := pk_bounds s 3 (by decide)
  have b2 := pk_bounds 1 4 (by decide)
  have c1 := check_config (pk s 3) (pk 1 4) ns b1 b2
  have hok := okSL_config (pk s 3) (1 + pk 1 4) ns b1
  have hone : inR .i64 1 := by simp only [inR]; omega
  have e4 : sp_Config.pre [.int .i64 s, .fz 1 (ns.map ic), .int .i64 1] = True := by simp [sp_Config]; exact ⟨s, ns, 1, ⟨rfl, rfl, rfl⟩, hs, hns, hone⟩
  have e3 : sp_Config.F [.int .i64 s, .fz 1 (ns.map ic), .int .i64 1] = cfgD (1 + pk s 3) (cfgLs ns) (1 + pk 1 4) := by simp [sp_Config, intsOf, intOf_ic]
  have hS1 : 0 ≤ 1 + pk s 3 := by omega
  generalize cfgLs ns = ls at c1 e3 hok
  generalize 1 + pk s 3 = S at c1 e3 hok hS1
  generalize 1 + pk 1 4 = P at c1 e3 hok
  have hS4 : S ≤ 4 := hok.2.2.1
  have hx2 : sp_Config.hx = none := rfl
  have hx3 : sp_EncodeRecord.hx = none := rfl
  have hx4 : sp_DecodeRecord.hx = none := rfl
  have r4 : sp_DecodeRecord.pre [.agg [.int .i64 S, .fz 2 (ls.map lbc), .int .i64 P], .fz 1 (bs.map b8)] = True := decR_pre hok hb (by omega)
  have r6 : sp_DecodeRecord.pre [.agg [.int .i64 S, .fz 2 (ls.map lbc), .int .i64 P], .fz 1 []] = True := decR_pre (bs := []) hok (fun x hx => by simp at hx) (by simp)
  have r5 : sp_DecodeRecord.F [.agg [.int .i64 S, .fz 2 (ls.map lbc), .int .i64 P], .fz 1 []] = .tup [.agg (recC rc0), .int .i64 5] := decR_F (bs := []) (drec_nil c1)
  have r3 : sp_DecodeRecord.F [.agg [.int .i64 S, .fz 2 (ls.map lbc), .int .i64 P], .fz 1 (bs.map b8)] = .tup [.agg (recC (drec S ls P bs).1), .int .i64 (drec S ls P bs).2] := decR_F rfl
  by_cases he : (drec S ls P bs).2 = 0
  · obtain ⟨f1, f2⟩ := drec_fixed hb he
    rw [he] at r3
    have hsl := okUpto_len (chkR_zero f2).2.2.2.2.1 hS1
    have q1 := encR_F f2
    have q2 := encR_pre (m := (drec S ls P bs).1) hok (by omega)
    rw [f1] at q1
    generalize (drec S ls P bs).1 = m at q1 q2 r3
    have hby := bytesOf_b8 bs
    have hlen : (bs.map b8).length = bs.length := List.length_map ..
    obtain ⟨kind, site, n, key, value, ask, yes, sites⟩ := m
    simp only [recC, rc0] at q1 q2 r3 r5
    simp (implicitDefEqProofs := false) (maxSteps := 10000000) [k_seq, k_block, k_skip, k_reg, k_alt, k_cond, k_exit, k_ret, kf_nil, kf_seq_n, kf_seq_e, kf_seq_r, kf_blk_n, kf_blk_e, kf_blk_r, kf_lp_n, kf_lp_e, kf_lp_r, kf_cut_n, kf_cut_e, kf_cut_r, mkTm, VCops, VCalt, istep, act, gd, applyE, wrapD, Opd.ev, get_mk, set_mk, set_mk0, tget16, tset16, tget_0, tset_0, tget_1, tset_1, tget_2, tset_2, tget_3, tset_3, tget_4, tset_4, tget_5, tset_5, tget_6, tset_6, tget_7, tset_7, tget_8, tset_8, tget_9, tset_9, tget_10, tset_10, tget_11, tset_11, tget_12, tset_12, tget_13, tset_13, tget_14, tset_14, tget_15, tset_15, D.un, D.gu, gus, IOp.opds, binD, fnPost, getRes, IRes.get, oneRes, D.out, outL, D.clos, closL, D.norow, norowL, D.lv, lvL, D.scal, scalL, D.cells, D.cell, D.cell', St.lk, obPut, obDel, List.lookup, cut, pickD, splice, fillParts, fillRows, elem_cons, newsOf, D.pl, D.forget, forgetL, Ob.forget, forgetO, eqCells, sg, leD, leDL, leOb, apartK, St.le, D.keys, keysL, D.rows, rowsL, obKeys, addKeys, reach, pos, D.ren, renL, Ob.ren, inM, outM, inObs, outObs, goneK, apartN, okNames_eq, okNms, obNms, namesOK_nil, namesOK_cons, freeOK_nil, freeOK_cons, D.frz, frzL, Ob.frz, frzO, St.frz, forgetLs, dropObs, putObs, hcall, freeOf, keeps, baseN, shD, isShift, shMax, k_bad, VCopsG, frz_nil, actx, actc, cnum, St.frzT, St.opnT, St.clsT, D.opn, opnL, Ob.opn, opnO, ir_reredoskeep_RecordFixed, h1, h3, h4, e3, e4, hx2, hx3, hx4, q1, q2, r3, r4, r5, r6, hby, intsD, bytesD, sp_RecordFixed, cfgD]
    omega
  · have f1 := drec_bad he
    rw [f1] at r3
    generalize (drec S ls P bs).2 = e at he r3
    have hby := bytesOf_b8 bs
    simp only [recC, rc0] at r3 r5
    simp (implicitDefEqProofs := false) (maxSteps := 10000000) [k_seq, k_block, k_skip, k_reg, k_alt, k_cond, k_exit, k_ret, kf_nil, kf_seq_n, kf_seq_e, kf_seq_r, kf_blk_n, kf_blk_e, kf_blk_r, kf_lp_n, kf_lp_e, kf_lp_r, kf_cut_n, kf_cut_e, kf_cut_r, mkTm, VCops, VCalt, istep, act, gd, applyE, wrapD, Opd.ev, get_mk, set_mk, set_mk0, tget16, tset16, tget_0, tset_0, tget_1, tset_1, tget_2, tset_2, tget_3, tset_3, tget_4, tset_4, tget_5, tset_5, tget_6, tset_6, tget_7, tset_7, tget_8, tset_8, tget_9, tset_9, tget_10, tset_10, tget_11, tset_11, tget_12, tset_12, tget_13, tset_13, tget_14, tset_14, tget_15, tset_15, D.un, D.gu, gus, IOp.opds, binD, fnPost, getRes, IRes.get, oneRes, D.out, outL, D.clos, closL, D.norow, norowL, D.lv, lvL, D.scal, scalL, D.cells, D.cell, D.cell', St.lk, obPut, obDel, List.lookup, cut, pickD, splice, fillParts, fillRows, elem_cons, newsOf, D.pl, D.forget, forgetL, Ob.forget, forgetO, eqCells, sg, leD, leDL, leOb, apartK, St.le, D.keys, keysL, D.rows, rowsL, obKeys, addKeys, reach, pos, D.ren, renL, Ob.ren, inM, outM, inObs, outObs, goneK, apartN, okNames_eq, okNms, obNms, namesOK_nil, namesOK_cons, freeOK_nil, freeOK_cons, D.frz, frzL, Ob.frz, frzO, St.frz, forgetLs, dropObs, putObs, hcall, freeOf, keeps, baseN, shD, isShift, shMax, k_bad, VCopsG, frz_nil, actx, actc, cnum, St.frzT, St.opnT, St.clsT, D.opn, opnL, Ob.opn, opnO, ir_reredoskeep_RecordFixed, h1, h3, h4, e3, e4, hx2, hx3, hx4, r3, r4, r5, r6, he, intsD, bytesD, sp_RecordFixed, cfgD]
    omega
end
end Go.Proofs.YteaonhddolfppaaDoor
