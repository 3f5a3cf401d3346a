/-
  The laws on tapes answer true on data. Conditions: those of the specifications' 'pre', and that the functions that are called are what theirs say.
-/
import Derived.Test.YteaonhddolfppaaDoorTapR
set_option linter.unusedVariables false
set_option linter.unusedSimpArgs false
namespace Go.Proofs.YteaonhddolfppaaDoor
open Go Go.Vcg

/-- A config, and what it is called with. -/
structure Cf (S P : Int) (ls : List (Int × Int)) : Prop where
  c1 : check S ls P = 0
  ok : okSL (cfgD S ls P)
theorem cfg_call {s : Int} {ns : List Int} (hs : inR .i64 s) (hns : okInts ns) : ∃ S P ls, Cf S P ls ∧ sp_Config.pre [.int .i64 s, .fz 1 (ns.map ic), .int .i64 1] = True ∧ sp_Config.F [.int .i64 s, .fz 1 (ns.map ic), .int .i64 1] = .agg [.int .i64 S, .fz 2 (ls.map lbc), .int .i64 P] := by
  have b1 := pk_bounds s 3 (by decide)
  have b2 := pk_bounds 1 4 (by decide)
  have hone : inR .i64 1 := by simp only [inR]; omega
  refine ⟨1 + pk s 3, 1 + pk 1 4, cfgLs ns, ⟨check_config (pk s 3) (pk 1 4) ns b1 b2, okSL_config (pk s 3) (1 + pk 1 4) ns b1⟩, ?_, ?_⟩
  · simp [sp_Config]; exact ⟨s, ns, 1, ⟨rfl, rfl, rfl⟩, hs, hns, hone⟩
  · simp [sp_Config, intsOf, intOf_ic, cfgD]
section
variable {S P : Int} {ls : List (Int × Int)}
theorem Cf.s4 (h : Cf S P ls) : S ≤ 4 := h.ok.2.2.1
theorem Cf.s1 (h : Cf S P ls) : 1 ≤ S := h.ok.2.1
theorem rec_pre (h : Cf S P ls) {r : Rw} (hr : okRaw r) : sp_Record.pre [.agg [.int .i64 S, .fz 2 (ls.map lbc), .int .i64 P], .agg (rawC r)] = True := by
  simp only [sp_Record, eq_iff_iff, iff_true]; exact ⟨_, r, rfl, h.ok, hr⟩
theorem rec_F (r : Rw) : sp_Record.F [.agg [.int .i64 S, .fz 2 (ls.map lbc), .int .i64 P], .agg (rawC r)] = .agg (recC (mkRec S r)) := by
  simp [sp_Record, cfgOf, lbL_lbc]; rfl
theorem recs_pre (h : Cf S P ls) {rs : List Rw} (hr : okRaws rs) (m : Int) (h0 : 0 ≤ m) (h1 : m ≤ 1000) : sp_records.pre [.agg [.int .i64 S, .fz 2 (ls.map lbc), .int .i64 P], .fz 6 (rs.map rawC), .int .i64 m] = True := by
  simp only [sp_records, eq_iff_iff, iff_true]; exact ⟨_, rs, m, rfl, h.ok, hr, h0, h1⟩
theorem recs_F (rs : List Rw) (m : Int) : sp_records.F [.agg [.int .i64 S, .fz 2 (ls.map lbc), .int .i64 P], .fz 6 (rs.map rawC), .int .i64 m] = .fz 8 (((rs.take m.toNat).map (mkRec S)).map recC) := by
  have e1 : D.agg [.int .i64 S, .fz 2 (ls.map lbc), .int .i64 P] = cfgD S ls P := rfl
  have e2 : D.fz 6 (rs.map rawC) = rawsD rs := rfl
  rw [e1, e2]
  simp only [sp_records, cfgOf_cfgD, rawsOf_rawsD, recsD]
/-- Records that may be. -/
def okRecs (S P : Int) (ls : List (Int × Int)) (m : Nat) (rs : List Rc) : Prop := (∀ r ∈ rs, chkR S ls P r = 0) ∧ rs.length ≤ m
theorem okRecs_mk (h : Cf S P ls) (rs : List Rw) (m : Nat) : okRecs S P ls m ((rs.take m).map (mkRec S)) := by
  refine ⟨fun r hr => ?_, by simp; omega⟩
  obtain ⟨x, _, rfl⟩ := List.mem_map.1 hr
  exact mkRec_ok S P ls x h.c1 h.s1
theorem okRecs_take {m : Nat} {rs : List Rc} (h : okRecs S P ls m rs) (j : Nat) : okRecs S P ls m (rs.take j) := ⟨fun r hr => h.1 r (List.mem_of_mem_take hr), by have := h.2; simp; omega⟩
theorem taped_pre (h : Cf S P ls) {m : Nat} {rs : List Rc} (hr : okRecs S P ls m rs) (hm : m ≤ 100) : sp_taped.pre [.agg [.int .i64 S, .fz 2 (ls.map lbc), .int .i64 P], .fz 8 (rs.map recC)] = True := by
  simp only [sp_taped, eq_iff_iff, iff_true]
  have h1 := h.s1
  refine ⟨cfgD S ls P, rs, rfl, h.ok.1, ?_, ?_, ?_, by have := hr.2; omega⟩
  · simp only [cfgOf_cfgD]; omega
  · simp only [cfgOf_cfgD]; exact h.s4
  · simp only [cfgOf_cfgD]; exact hr.1
theorem taped_F (rs : List Rc) : sp_taped.F [.agg [.int .i64 S, .fz 2 (ls.map lbc), .int .i64 P], .fz 8 (rs.map recC)] = .tup [.agg [.fz 1 ((allT rs).map b8), .int .i64 0], .bool true] := by
  have e2 : D.fz 8 (rs.map recC) = recsD rs := rfl
  rw [e2]
  simp only [sp_taped, recsOf_recsD, tapD, tapC]
theorem allT_len (h : Cf S P ls) {m : Nat} {rs : List Rc} (hr : okRecs S P ls m rs) : (allT rs).length ≤ 20 * m := by
  have h1 := h.s1
  have := length_allT rs fun r hx => (good_enc (hr.1 r hx) h.s4 (by omega)).1
  have := hr.2
  omega
theorem allT_ok (h : Cf S P ls) {m : Nat} {rs : List Rc} (hr : okRecs S P ls m rs) : okBytes (allT rs) := by
  have h1 := h.s1
  exact okBytes_allT rs fun r hx => (good_enc (hr.1 r hx) h.s4 (by omega)).1
theorem rcv_pre (h : Cf S P ls) {bs : List Int} {n : Int} (hb : okBytes bs) (hl : bs.length ≤ 140737488355328) : sp_Recover.pre [.agg [.int .i64 S, .fz 2 (ls.map lbc), .int .i64 P], .agg [.fz 1 (bs.map b8), .int .i64 n]] = True := by
  simp only [sp_Recover, eq_iff_iff, iff_true]
  exact ⟨cfgD S ls P, bs, n, rfl, h.ok.1, by simpa only [cfgOf_cfgD] using h.c1, hb, hl⟩
theorem rcv_F {bs : List Int} {n : Int} {R : List Rc} {t : Nat} (hb : badT bs n = false) (h : recov S ls P bs.length bs = (R, t)) : sp_Recover.F [.agg [.int .i64 S, .fz 2 (ls.map lbc), .int .i64 P], .agg [.fz 1 (bs.map b8), .int .i64 n]] = .tup [.fz 8 (R.map recC), .agg [.fz 1 ((bs.take t).map b8), .int .i64 (min n t)], .int .i64 0] := by
  have e1 : D.agg [.int .i64 S, .fz 2 (ls.map lbc), .int .i64 P] = cfgD S ls P := rfl
  have e2 : D.agg [.fz 1 (bs.map b8), .int .i64 n] = tapD bs n := rfl
  rw [e1, e2]
  simp only [sp_Recover, cfgOf_cfgD, tapOf_tapD, hb, h]
  rfl
theorem rcv_F' {bs : List Int} {n : Int} (hb : badT bs n = true) : sp_Recover.F [.agg [.int .i64 S, .fz 2 (ls.map lbc), .int .i64 P], .agg [.fz 1 (bs.map b8), .int .i64 n]] = .tup [.fz 8 [], .agg [.fz 1 [], .int .i64 0], .int .i64 9] := by
  have e1 : D.agg [.int .i64 S, .fz 2 (ls.map lbc), .int .i64 P] = cfgD S ls P := rfl
  have e2 : D.agg [.fz 1 (bs.map b8), .int .i64 n] = tapD bs n := rfl
  rw [e1, e2]
  simp only [sp_Recover, cfgOf_cfgD, tapOf_tapD, hb]
  rfl
theorem crash_pre {bs : List Int} {n k : Int} (hl : bs.length ≤ 140737488355328) : sp_Crash.pre [.agg [.fz 1 (bs.map b8), .int .i64 n], .int .i64 k] = True := by
  simp only [sp_Crash, eq_iff_iff, iff_true]; exact ⟨bs, n, k, rfl, hl⟩
theorem crash_F {bs : List Int} {n k : Int} (hb : badT bs n = false) (hk : 0 ≤ k) : sp_Crash.F [.agg [.fz 1 (bs.map b8), .int .i64 n], .int .i64 k] = .tup [.agg [.fz 1 ((bs.take (crashN bs n k).toNat).map b8), .int .i64 (crashN bs n k)], .int .i64 0] := by
  have e2 : D.agg [.fz 1 (bs.map b8), .int .i64 n] = tapD bs n := rfl
  rw [e2]
  simp only [sp_Crash, tapOf_tapD, hb]
  rw [if_neg (by simp), if_neg (by omega)]
  rfl
theorem crash_F' {bs : List Int} {n k : Int} (hb : badT bs n = false) (hk : k < 0) : sp_Crash.F [.agg [.fz 1 (bs.map b8), .int .i64 n], .int .i64 k] = .tup [.agg [.fz 1 [], .int .i64 0], .int .i64 2] := by
  have e2 : D.agg [.fz 1 (bs.map b8), .int .i64 n] = tapD bs n := rfl
  rw [e2]
  simp only [sp_Crash, tapOf_tapD, hb]
  rw [if_neg (by simp), if_pos hk]
  rfl
theorem pk_pre {n m : Int} (h : inR .i64 n) (hm : 0 < m) : sp_picked.pre [.int .i64 n, .int .i64 m] = True := by
  simp only [sp_picked, eq_iff_iff, iff_true]; exact ⟨_, _, rfl, h, hm⟩
theorem pk_F (n m : Int) : sp_picked.F [.int .i64 n, .int .i64 m] = .int .i64 (pk n m) := rfl
theorem good_badT {bs : List Int} {n : Int} (h0 : 0 ≤ n) (h1 : n ≤ bs.length) (h2 : bs.length ≤ 6000) : badT bs n = false := by
  simp [badT]; omega
theorem beg_F (a b : List Rc) : sp_begins.F [.fz 8 (a.map recC), .fz 8 (b.map recC)] = .bool (decide (b.take a.length = a)) := by
  have e1 : D.fz 8 (a.map recC) = recsD a := rfl
  have e2 : D.fz 8 (b.map recC) = recsD b := rfl
  rw [e1, e2]
  simp only [sp_begins, recsOf_recsD]
theorem beg_pre (h : Cf S P ls) {m m' : Nat} {a b : List Rc} (ha : okRecs S P ls m a) (hb : okRecs S P ls m' b) (hm : m ≤ 100) (hm' : m' ≤ 100) : sp_begins.pre [.fz 8 (a.map recC), .fz 8 (b.map recC)] = True := by
  simp only [sp_begins, eq_iff_iff, iff_true]
  have h1 := h.s1
  exact ⟨a, b, rfl, fun r hr => by have := (good_enc (ha.1 r hr) h.s4 (by omega)).2; omega, fun r hr => by have := (good_enc (hb.1 r hr) h.s4 (by omega)).2; omega, by have := ha.2; omega, by have := hb.2; omega⟩
end

def sp_CrashJust : Sp := { pre := fun ds => ∃ s ns rs a k, ds = [.int .i64 s, intsD ns, rawsD rs, .int .i64 a, .int .i64 k] ∧ inR .i64 s ∧ okInts ns ∧ okRaws rs ∧ inR .i64 a ∧ inR .i64 k, F := fun _ => .bool true }
def sp_TapeTorn : Sp := { pre := fun ds => ∃ s ns rs a, ds = [.int .i64 s, intsD ns, rawsD rs, .int .i64 a] ∧ inR .i64 s ∧ okInts ns ∧ okRaws rs ∧ inR .i64 a, F := fun _ => .bool true }
def sp_TapeOn : Sp := { pre := fun ds => ∃ s ns rs k r, ds = [.int .i64 s, intsD ns, rawsD rs, .int .i64 k, rawD r] ∧ inR .i64 s ∧ okInts ns ∧ okRaws rs ∧ inR .i64 k ∧ okRaw r, F := fun _ => .bool true }
def sp_TapeKeeps : Sp := { pre := fun ds => ∃ s ns rs a k, ds = [.int .i64 s, intsD ns, rawsD rs, .int .i64 a, .int .i64 k] ∧ inR .i64 s ∧ okInts ns ∧ okRaws rs ∧ inR .i64 a ∧ inR .i64 k, F := fun _ => .bool true }
def sp_TapeRoom : Sp := { pre := fun ds => ∃ s ns r n, ds = [.int .i64 s, intsD ns, rawD r, .int .i64 n] ∧ inR .i64 s ∧ okInts ns ∧ okRaw r ∧ inR .i64 n, F := fun _ => .bool true }

section
variable {T : Tb}
set_option maxRecDepth 100000 in
set_option maxHeartbeats 4000000 in
theorem v_CrashJust (h0 : T.sp n_reredoskeep_picked = some sp_picked) (h1 : T.sp n_reredoskeep_Config = some sp_Config) (h2 : T.sp n_reredoskeep_records = some sp_records) (h3 : T.sp n_reredoskeep_taped = some sp_taped) (h4 : T.sp n_tape_Crash = some sp_Crash) : Verified T ir_reredoskeep_CrashJust sp_CrashJust := by
  refine Verified.mk ?_
  rintro ds ⟨s, ns, rs, a, k, rfl, hs, hns, hrs, ha, hk⟩
  obtain ⟨S, P, ls, hcf, e4, e3⟩ := cfg_call hs hns
  have hx0 : sp_picked.hx = none := rfl
  have hx1 : sp_Config.hx = none := rfl
  have hx2 : sp_records.hx = none := rfl
  have hx3 : sp_taped.hx = none := rfl
  have hx4 : sp_Crash.hx = none := rfl
  have q1 := recs_pre hcf hrs 20 (by decide) (by decide)
  have q2 := recs_F (S := S) (P := P) (ls := ls) rs 20
  have hok := okRecs_mk hcf rs 20
  have e20 : (20 : Int).toNat = 20 := rfl
  rw [e20] at q2
  generalize (rs.take 20).map (mkRec S) = R at q2 hok
  have q3 := taped_pre hcf hok (by decide)
  have q4 := taped_F (S := S) (P := P) (ls := ls) R
  have hl := allT_len hcf hok
  generalize allT R = bs at q4 hl
  have bk := pk_bounds k 200 (by decide)
  have pk1 := pk_pre hk (m := 200) (by decide)
  have pk2 := pk_F k 200
  generalize pk k 200 = kk at bk pk2
  have ba := pk_bounds a (bs.length + 1) (by omega)
  have pa1 := pk_pre ha (m := bs.length + 1) (by omega)
  have pa2 := pk_F a (bs.length + 1)
  generalize pk a (bs.length + 1) = n at ba pa2
  have hb := good_badT (bs := bs) (n := n) (by omega) (by omega) (by omega)
  have c1 := crash_pre (bs := bs) (n := n) (k := kk) (by omega)
  have c2 := crash_F hb (k := kk) (by omega)
  have c3 := crash_pre (bs := bs) (n := n) (k := -1 - kk) (by omega)
  have c4 := crash_F' hb (k := -1 - kk) (by omega)
  have hm : min (n + kk) bs.length = crashN bs n kk := by simp only [crashN]; omega
  have hm0 : 0 ≤ crashN bs n kk ∧ crashN bs n kk ≤ bs.length := by simp only [crashN]; omega
  generalize crashN bs n kk = m at c2 hm hm0
  have hby := bytesOf_b8 (bs.take m.toNat)
  have htl : (bs.take m.toNat).length = m.toNat := by rw [List.length_take]; omega
  simp only [List.map_take] at c2 hby
  simp (implicitDefEqProofs := false) (maxSteps := 10000000) [k_seq, k_block, k_skip, k_reg, k_alt, k_cond, k_exit, k_ret, kf_nil, kf_seq_n, kf_seq_e, kf_seq_r, kf_blk_n, kf_blk_e, kf_blk_r, kf_lp_n, kf_lp_e, kf_lp_r, kf_cut_n, kf_cut_e, kf_cut_r, mkTm, VCops, VCalt, istep, act, gd, applyE, wrapD, Opd.ev, get_mk, set_mk, set_mk0, tget16, tset16, tget_0, tset_0, tget_1, tset_1, tget_2, tset_2, tget_3, tset_3, tget_4, tset_4, tget_5, tset_5, tget_6, tset_6, tget_7, tset_7, tget_8, tset_8, tget_9, tset_9, tget_10, tset_10, tget_11, tset_11, tget_12, tset_12, tget_13, tset_13, tget_14, tset_14, tget_15, tset_15, D.un, D.gu, gus, IOp.opds, binD, fnPost, getRes, IRes.get, oneRes, D.out, outL, D.clos, closL, D.norow, norowL, D.lv, lvL, D.scal, scalL, D.cells, D.cell, D.cell', St.lk, obPut, obDel, List.lookup, cut, pickD, splice, fillParts, fillRows, elem_cons, newsOf, D.pl, D.forget, forgetL, Ob.forget, forgetO, eqCells, sg, leD, leDL, leOb, apartK, St.le, D.keys, keysL, D.rows, rowsL, obKeys, addKeys, reach, pos, D.ren, renL, Ob.ren, inM, outM, inObs, outObs, goneK, apartN, okNames_eq, okNms, obNms, namesOK_nil, namesOK_cons, freeOK_nil, freeOK_cons, D.frz, frzL, Ob.frz, frzO, St.frz, forgetLs, dropObs, putObs, hcall, freeOf, keeps, baseN, shD, isShift, shMax, k_bad, VCopsG, frz_nil, actx, actc, cnum, St.frzT, St.opnT, St.clsT, D.opn, opnL, Ob.opn, opnO, ir_reredoskeep_CrashJust, h0, h1, h2, h3, h4, e3, e4, hx0, hx1, hx2, hx3, hx4, q1, q2, q3, q4, pk1, pk2, pa1, pa2, c1, c2, c3, c4, hm, hby, intsD, rawsD, sp_CrashJust]
  simp only [inR]; omega

theorem app_full {S P n : Int} {ls : List (Int × Int)} {bs : List Int} {r : Rc} (hb : badT bs n = false) (hc : chkR S ls P r = 0) (hl : 6000 < bs.length + 1 + (encR r).length) : sp_Append.F [.agg [.int .i64 S, .fz 2 (ls.map lbc), .int .i64 P], .agg [.fz 1 (bs.map b8), .int .i64 n], .agg (recC r)] = .tup [.agg [.fz 1 [], .int .i64 0], .int .i64 8] := by
  have e1 : D.agg [.int .i64 S, .fz 2 (ls.map lbc), .int .i64 P] = cfgD S ls P := rfl
  have e2 : D.agg [.fz 1 (bs.map b8), .int .i64 n] = tapD bs n := rfl
  have e3 : D.agg (recC r) = recD r := rfl
  have e : appT S ls P bs n r = (([], 0), 8) := by rw [appT, if_neg (by simp [hb]), if_neg (by simp [hc]), if_pos (by omega)]
  rw [e1, e2, e3]
  simp only [sp_Append, cfgOf_cfgD, tapOf_tapD, recOf_recD, e]
  rfl
theorem room_F {bs : List Int} {n : Int} (hb : badT bs n = false) : sp_Room.F [.agg [.fz 1 (bs.map b8), .int .i64 n]] = .tup [.int .i64 (6000 - bs.length), .int .i64 0] := by
  have e2 : D.agg [.fz 1 (bs.map b8), .int .i64 n] = tapD bs n := rfl
  rw [e2]
  simp only [sp_Room, tapOf_tapD, hb]
  rfl
theorem room_pre {bs : List Int} {n : Int} (hl : bs.length ≤ 140737488355328) : sp_Room.pre [.agg [.fz 1 (bs.map b8), .int .i64 n]] = True := by
  simp only [sp_Room, eq_iff_iff, iff_true]; exact ⟨bs, n, rfl, hl⟩
theorem sync_F {bs : List Int} {n : Int} (hb : badT bs n = false) : sp_Sync.F [.agg [.fz 1 (bs.map b8), .int .i64 n]] = .tup [.agg [.fz 1 (bs.map b8), .int .i64 bs.length], .int .i64 0] := by
  have e2 : D.agg [.fz 1 (bs.map b8), .int .i64 n] = tapD bs n := rfl
  rw [e2]
  simp only [sp_Sync, tapOf_tapD, hb]
  rfl
theorem sync_pre {bs : List Int} {n : Int} (hl : bs.length ≤ 140737488355328) : sp_Sync.pre [.agg [.fz 1 (bs.map b8), .int .i64 n]] = True := by
  simp only [sp_Sync, eq_iff_iff, iff_true]; exact ⟨bs, n, rfl, hl⟩
theorem allT_take (rs : List Rc) (j : Nat) : (allT rs).take (allT (rs.take j)).length = allT (rs.take j) := by
  have h : allT rs = allT (rs.take j) ++ allT (rs.drop j) := by rw [← allT_append, List.take_append_drop]
  rw [h, List.take_left' rfl]

/-- What is recovered of the first q bytes of a tape that was written. -/
theorem recover_take {S P : Int} {ls : List (Int × Int)} (hcf : Cf S P ls) {m : Nat} {R : List Rc} (hok : okRecs S P ls m R) (hm : m ≤ 25) (q : Nat) (hq : q ≤ (allT R).length) (n : Int) (hn0 : 0 ≤ n) (hn : n ≤ q) :
    ∃ j, j ≤ R.length ∧ sp_Recover.pre [.agg [.int .i64 S, .fz 2 (ls.map lbc), .int .i64 P], .agg [.fz 1 (List.take q ((allT R).map b8)), .int .i64 n]] = True ∧
      sp_Recover.F [.agg [.int .i64 S, .fz 2 (ls.map lbc), .int .i64 P], .agg [.fz 1 (List.take q ((allT R).map b8)), .int .i64 n]] = .tup [.fz 8 ((R.take j).map recC), .agg [.fz 1 ((allT (R.take j)).map b8), .int .i64 (min n (allT (R.take j)).length)], .int .i64 0] ∧
      (allT (R.take j)).length ≤ q ∧ (∀ i, i ≤ R.length → (allT (R.take i)).length ≤ q → i ≤ j) ∧ okRecs S P ls m (R.take j) := by
  have hl := allT_len hcf hok
  have h1 := hcf.s1
  have hlt : ((allT R).take q).length = q := by rw [List.length_take]; omega
  obtain ⟨j, j1, j2, j3, j4⟩ := recov_take (S := S) (p := P) (ls := ls) hcf.s4 (by omega) R hok.1 q q hq (Nat.le_refl _)
  refine ⟨j, j1, ?_, ?_, j3, j4, okRecs_take hok j⟩
  · rw [← List.map_take]
    exact rcv_pre hcf (fun x hx => allT_ok hcf hok x (List.mem_of_mem_take hx)) (by omega)
  · rw [← List.map_take]
    rw [rcv_F (bs := (allT R).take q) (R := R.take j) (t := (allT (R.take j)).length) (good_badT hn0 (by omega) (by omega)) (by rw [hlt]; exact j2), List.take_take, Nat.min_eq_left j3, allT_take]
theorem recover_all {S P : Int} {ls : List (Int × Int)} (hcf : Cf S P ls) {m : Nat} {R : List Rc} (hok : okRecs S P ls m R) (hm : m ≤ 26) (n : Int) (hn0 : 0 ≤ n) (hn : n ≤ (allT R).length) :
    sp_Recover.pre [.agg [.int .i64 S, .fz 2 (ls.map lbc), .int .i64 P], .agg [.fz 1 ((allT R).map b8), .int .i64 n]] = True ∧
      sp_Recover.F [.agg [.int .i64 S, .fz 2 (ls.map lbc), .int .i64 P], .agg [.fz 1 ((allT R).map b8), .int .i64 n]] = .tup [.fz 8 (R.map recC), .agg [.fz 1 ((allT R).map b8), .int .i64 (min n (allT R).length)], .int .i64 0] := by
  have hl := allT_len hcf hok
  have h1 := hcf.s1
  refine ⟨rcv_pre hcf (allT_ok hcf hok) (by omega), ?_⟩
  rw [rcv_F (good_badT hn0 hn (by omega)) (recov_all (S := S) (p := P) (ls := ls) hcf.s4 (by omega) R hok.1), List.take_length]

set_option maxRecDepth 100000 in
set_option maxHeartbeats 4000000 in
theorem v_TapeTorn (h0 : T.sp n_reredoskeep_picked = some sp_picked) (h1 : T.sp n_reredoskeep_Config = some sp_Config) (h2 : T.sp n_reredoskeep_records = some sp_records) (h3 : T.sp n_reredoskeep_taped = some sp_taped) (h4 : T.sp n_tape_Recover = some sp_Recover) (h5 : T.sp n_reredoskeep_begins = some sp_begins) : Verified T ir_reredoskeep_TapeTorn sp_TapeTorn := by
  refine Verified.mk ?_
  rintro ds ⟨s, ns, rs, a, rfl, hs, hns, hrs, ha⟩
  obtain ⟨S, P, ls, hcf, e4, e3⟩ := cfg_call hs hns
  have hx0 : sp_picked.hx = none := rfl
  have hx1 : sp_Config.hx = none := rfl
  have hx2 : sp_records.hx = none := rfl
  have hx3 : sp_taped.hx = none := rfl
  have hx4 : sp_Recover.hx = none := rfl
  have hx5 : sp_begins.hx = none := rfl
  have q1 := recs_pre hcf hrs 20 (by decide) (by decide)
  have q2 := recs_F (S := S) (P := P) (ls := ls) rs 20
  have hok := okRecs_mk hcf rs 20
  have e20 : (20 : Int).toNat = 20 := rfl
  rw [e20] at q2
  generalize (rs.take 20).map (mkRec S) = R at q2 hok
  have q3 := taped_pre hcf hok (by decide)
  have q4 := taped_F (S := S) (P := P) (ls := ls) R
  have hl := allT_len hcf hok
  have ba := pk_bounds a ((allT R).length + 1) (by omega)
  have pa1 := pk_pre ha (m := (allT R).length + 1) (by omega)
  have pa2 := pk_F a ((allT R).length + 1)
  generalize pk a ((allT R).length + 1) = kk at ba pa2
  obtain ⟨j, j1, r1, r2, r3, r4, r5⟩ := recover_take hcf hok (by decide) kk.toNat (by omega) 0 (by omega) (by omega)
  obtain ⟨r6, r7⟩ := recover_all hcf r5 (by decide) 0 (by omega) (by omega)
  have hm1 : min (0 : Int) ((allT (R.take j)).length : Int) = 0 := by omega
  rw [hm1] at r2 r7
  have r8 := rcv_pre (S := S) (P := P) (ls := ls) hcf (bs := []) (n := 1) (fun x hx => by simp at hx) (by simp)
  have r9 := rcv_F' (S := S) (P := P) (ls := ls) (bs := []) (n := 1) (by simp [badT])
  have bp := beg_pre hcf r5 hok (by decide) (by decide)
  have bF := beg_F (R.take j) R
  have hgl : (R.take j).length = j := by rw [List.length_take]; omega
  have hpre : R.take (R.take j).length = R.take j := by rw [hgl]
  rw [hpre, decide_eq_true rfl] at bF
  have hby := bytesOf_b8 (allT (R.take j))
  have hfull : kk = (allT R).length → j = R.length := fun h => by
    have := r4 R.length (Nat.le_refl _) (by rw [List.take_length]; omega)
    omega
  have hfull2 : j = R.length → kk = (allT R).length := fun h => by
    rw [h, List.take_length] at r3
    omega
  have hmj : ((R.take j).map recC).length = j := by rw [List.length_map, hgl]
  generalize allT (R.take j) = ub at r2 r3 r6 r7 hby
  generalize R.take j = G at r2 r5 r7 bp bF hgl hpre hmj
  generalize allT R = bs at q4 hl ba pa1 pa2 r1 r2 r3 r4 hfull hfull2
  have hiff : (G.length = R.length) = (kk = bs.length) := by
    rw [hgl]; exact propext ⟨hfull2, hfull⟩
  simp only [List.map_nil] at r8 r9
  simp (implicitDefEqProofs := false) (maxSteps := 10000000) [k_seq, k_block, k_skip, k_reg, k_alt, k_cond, k_exit, k_ret, kf_nil, kf_seq_n, kf_seq_e, kf_seq_r, kf_blk_n, kf_blk_e, kf_blk_r, kf_lp_n, kf_lp_e, kf_lp_r, kf_cut_n, kf_cut_e, kf_cut_r, mkTm, VCops, VCalt, istep, act, gd, applyE, wrapD, Opd.ev, get_mk, set_mk, set_mk0, tget16, tset16, tget_0, tset_0, tget_1, tset_1, tget_2, tset_2, tget_3, tset_3, tget_4, tset_4, tget_5, tset_5, tget_6, tset_6, tget_7, tset_7, tget_8, tset_8, tget_9, tset_9, tget_10, tset_10, tget_11, tset_11, tget_12, tset_12, tget_13, tset_13, tget_14, tset_14, tget_15, tset_15, D.un, D.gu, gus, IOp.opds, binD, fnPost, getRes, IRes.get, oneRes, D.out, outL, D.clos, closL, D.norow, norowL, D.lv, lvL, D.scal, scalL, D.cells, D.cell, D.cell', St.lk, obPut, obDel, List.lookup, cut, pickD, splice, fillParts, fillRows, elem_cons, newsOf, D.pl, D.forget, forgetL, Ob.forget, forgetO, eqCells, sg, leD, leDL, leOb, apartK, St.le, D.keys, keysL, D.rows, rowsL, obKeys, addKeys, reach, pos, D.ren, renL, Ob.ren, inM, outM, inObs, outObs, goneK, apartN, okNames_eq, okNms, obNms, namesOK_nil, namesOK_cons, freeOK_nil, freeOK_cons, D.frz, frzL, Ob.frz, frzO, St.frz, forgetLs, dropObs, putObs, hcall, freeOf, keeps, baseN, shD, isShift, shMax, k_bad, VCopsG, frz_nil, actx, actc, cnum, St.frzT, St.opnT, St.clsT, D.opn, opnL, Ob.opn, opnO, ir_reredoskeep_TapeTorn, h0, h1, h2, h3, h4, h5, e3, e4, hx0, hx1, hx2, hx3, hx4, hx5, q1, q2, q3, q4, pa1, pa2, r1, r2, r6, r7, r8, r9, bp, bF, hby, intsD, rawsD, sp_TapeTorn]
  refine ⟨by simp only [inR]; omega, by omega, by omega, ?_⟩
  rw [Bool.eq_iff_iff]
  simp only [beq_iff_eq]
  constructor
  · intro h
    exact hfull2 (by omega)
  · intro h
    have := hfull h
    omega

set_option maxRecDepth 100000 in
set_option maxHeartbeats 4000000 in
theorem v_TapeOn (h0 : T.sp n_reredoskeep_picked = some sp_picked) (h1 : T.sp n_reredoskeep_Config = some sp_Config) (h2 : T.sp n_reredoskeep_records = some sp_records) (h3 : T.sp n_reredoskeep_taped = some sp_taped) (h4 : T.sp n_tape_Recover = some sp_Recover) (h5 : T.sp n_reredoskeep_begins = some sp_begins) (h6 : T.sp n_tape_Crash = some sp_Crash) (h7 : T.sp n_tape_Append = some sp_Append) (h8 : T.sp n_reredoskeep_Record = some sp_Record) (h9 : T.sp n_reredoskeep_sameRecord = some sp_sameRecord) : Verified T ir_reredoskeep_TapeOn sp_TapeOn := by
  refine Verified.mk ?_
  rintro ds ⟨s, ns, rs, k, r, rfl, hs, hns, hrs, hk, hr⟩
  obtain ⟨S, P, ls, hcf, e4, e3⟩ := cfg_call hs hns
  have hS1 := hcf.s1
  have hx0 : sp_picked.hx = none := rfl
  have hx1 : sp_Config.hx = none := rfl
  have hx2 : sp_records.hx = none := rfl
  have hx3 : sp_taped.hx = none := rfl
  have hx4 : sp_Recover.hx = none := rfl
  have hx5 : sp_begins.hx = none := rfl
  have hx6 : sp_Crash.hx = none := rfl
  have hx7 : sp_Append.hx = none := rfl
  have hx8 : sp_Record.hx = none := rfl
  have hx9 : sp_sameRecord.hx = none := rfl
  have q1 := recs_pre hcf hrs 20 (by decide) (by decide)
  have q2 := recs_F (S := S) (P := P) (ls := ls) rs 20
  have hok := okRecs_mk hcf rs 20
  have e20 : (20 : Int).toNat = 20 := rfl
  rw [e20] at q2
  generalize (rs.take 20).map (mkRec S) = R at q2 hok
  have q3 := taped_pre hcf hok (by decide)
  have q4 := taped_F (S := S) (P := P) (ls := ls) R
  have hl := allT_len hcf hok
  have bk := pk_bounds k 200 (by decide)
  have pk1 := pk_pre hk (m := 200) (by decide)
  have pk2 := pk_F k 200
  generalize pk k 200 = kk at bk pk2
  have hb0 := good_badT (bs := allT R) (n := 0) (by omega) (by omega) (by omega)
  have c1 := crash_pre (bs := allT R) (n := 0) (k := kk) (by omega)
  have c2 := crash_F hb0 (k := kk) (by omega)
  have hm0 : 0 ≤ crashN (allT R) 0 kk ∧ crashN (allT R) 0 kk ≤ (allT R).length := by simp only [crashN]; omega
  generalize crashN (allT R) 0 kk = m at c2 hm0
  rw [List.map_take] at c2
  obtain ⟨j, j1, r1, r2, r3, r4, r5⟩ := recover_take hcf hok (by decide) m.toNat (by omega) m (by omega) (by omega)
  have hmin : min m ((allT (R.take j)).length : Int) = (allT (R.take j)).length := by omega
  rw [hmin] at r2
  have g1 := rec_pre hcf hr
  have g2 := rec_F (S := S) (P := P) (ls := ls) r
  have g3 := mkRec_ok S P ls r hcf.c1 hS1
  obtain ⟨g4, g5⟩ := good_enc g3 hcf.s4 (by omega)
  have hul := allT_len hcf r5
  have a1 := app_pre (S := S) (P := P) (ls := ls) (bs := allT (R.take j)) (n := (allT (R.take j)).length) (r := mkRec S r) hcf.ok.1 hcf.s4 (by omega) (by omega) (by omega)
  have a2 := app_F (S := S) (P := P) (ls := ls) (bs := allT (R.take j)) (n := (allT (R.take j)).length) (r := mkRec S r) (good_badT (by omega) (by omega) (by omega)) g3 (by omega)
  have hadd : allT (R.take j) ++ recT1 (mkRec S r) = allT (R.take j ++ [mkRec S r]) := by rw [allT_append, allT_one]
  have hok2 : okRecs S P ls 21 (R.take j ++ [mkRec S r]) := by
    refine ⟨fun x hx => ?_, by have := r5.2; simp at this ⊢; omega⟩
    rcases List.mem_append.1 hx with hx | hx
    · exact r5.1 x hx
    · simp at hx; subst hx; exact g3
  have hlen2 : (allT (R.take j)).length ≤ (allT (R.take j ++ [mkRec S r])).length := by rw [← hadd, List.length_append]; omega
  obtain ⟨r6, r7⟩ := recover_all hcf hok2 (by decide) (allT (R.take j)).length (by omega) (by omega)
  rw [hadd] at a2
  have bp := beg_pre hcf r5 hok2 (by decide) (by decide)
  have bF := beg_F (R.take j) (R.take j ++ [mkRec S r])
  rw [List.take_left' rfl, decide_eq_true rfl] at bF
  have hel : elem ((R.take j ++ [mkRec S r]).map recC) (R.take j).length = recC (mkRec S r) := by
    rw [elem_map recC _ _ (by simp)]
    simp
  have hlast : (R.take j ++ [mkRec S r]).length = (R.take j).length + 1 := by simp
  have hsF : sp_sameRecord.F [.agg (recC (mkRec S r)), .agg (recC (mkRec S r))] = .bool true := by
    have e : D.agg (recC (mkRec S r)) = recD (mkRec S r) := rfl
    simp only [sp_sameRecord, e, recOf_recD, decide_true]
  have hsP : sp_sameRecord.pre [.agg (recC (mkRec S r)), .agg (recC (mkRec S r))] = True := by
    simp only [sp_sameRecord, eq_iff_iff, iff_true]
    exact ⟨_, _, rfl, by omega, by omega⟩
  have hGl : (R.take j).length ≤ 1000 := by have := r5.2; omega
  clear g3 g4 r3 r4 r5 hok hok2 hadd hmin hb0 hlen2
  generalize R.take j ++ [mkRec S r] = A at a2 r6 r7 bp bF hel hlast
  generalize allT A = ab at a2 r6 r7
  generalize allT (R.take j) = ub at r2 r6 r7 a1 a2 hul
  generalize R.take j = G at r2 bp bF hel hlast hGl
  generalize allT R = bs at q4 hl c1 c2 hm0 r1 r2
  generalize mkRec S r = x at g2 a1 a2 hel hsF hsP g5
  obtain ⟨kind, site, n, key, value, ask, yes, sites⟩ := x
  obtain ⟨k', a', b', c', d', e'⟩ := r
  simp only [recC, rawC] at g1 g2 a1 a2 hel hsF hsP
  simp (implicitDefEqProofs := false) (maxSteps := 10000000) [k_seq, k_block, k_skip, k_reg, k_alt, k_cond, k_exit, k_ret, kf_nil, kf_seq_n, kf_seq_e, kf_seq_r, kf_blk_n, kf_blk_e, kf_blk_r, kf_lp_n, kf_lp_e, kf_lp_r, kf_cut_n, kf_cut_e, kf_cut_r, mkTm, VCops, VCalt, istep, act, gd, applyE, wrapD, Opd.ev, get_mk, set_mk, set_mk0, tget16, tset16, tget_0, tset_0, tget_1, tset_1, tget_2, tset_2, tget_3, tset_3, tget_4, tset_4, tget_5, tset_5, tget_6, tset_6, tget_7, tset_7, tget_8, tset_8, tget_9, tset_9, tget_10, tset_10, tget_11, tset_11, tget_12, tset_12, tget_13, tset_13, tget_14, tset_14, tget_15, tset_15, D.un, D.gu, gus, IOp.opds, binD, fnPost, getRes, IRes.get, oneRes, D.out, outL, D.clos, closL, D.norow, norowL, D.lv, lvL, D.scal, scalL, D.cells, D.cell, D.cell', St.lk, obPut, obDel, List.lookup, cut, pickD, splice, fillParts, fillRows, elem_cons, newsOf, D.pl, D.forget, forgetL, Ob.forget, forgetO, eqCells, sg, leD, leDL, leOb, apartK, St.le, D.keys, keysL, D.rows, rowsL, obKeys, addKeys, reach, pos, D.ren, renL, Ob.ren, inM, outM, inObs, outObs, goneK, apartN, okNames_eq, okNms, obNms, namesOK_nil, namesOK_cons, freeOK_nil, freeOK_cons, D.frz, frzL, Ob.frz, frzO, St.frz, forgetLs, dropObs, putObs, hcall, freeOf, keeps, baseN, shD, isShift, shMax, k_bad, VCopsG, frz_nil, actx, actc, cnum, St.frzT, St.opnT, St.clsT, D.opn, opnL, Ob.opn, opnO, ir_reredoskeep_TapeOn, h0, h1, h2, h3, h4, h5, h6, h7, h8, h9, e3, e4, hx0, hx1, hx2, hx3, hx4, hx5, hx6, hx7, hx8, hx9, q1, q2, q3, q4, pk1, pk2, c1, c2, r1, r2, r6, r7, g1, g2, a1, a2, bp, bF, hel, hlast, hsF, hsP, intsD, rawsD, rawD, rawC, sp_TapeOn]
  refine ⟨by simp only [inR]; omega, by omega⟩

set_option maxRecDepth 100000 in
set_option maxHeartbeats 4000000 in
theorem v_TapeRoom (h0 : T.sp n_reredoskeep_picked = some sp_picked) (h1 : T.sp n_reredoskeep_Config = some sp_Config) (h2 : T.sp n_reredoskeep_Record = some sp_Record) (h3 : T.sp n_wire_EncodeRecord = some sp_EncodeRecord) (h4 : T.sp n_tape_Room = some sp_Room) (h5 : T.sp n_tape_Append = some sp_Append) : Verified T ir_reredoskeep_TapeRoom sp_TapeRoom := by
  refine Verified.mk ?_
  rintro ds ⟨s, ns, r, n, rfl, hs, hns, hr, hn⟩
  obtain ⟨S, P, ls, hcf, e4, e3⟩ := cfg_call hs hns
  have hS1 := hcf.s1
  have hx0 : sp_picked.hx = none := rfl
  have hx1 : sp_Config.hx = none := rfl
  have hx2 : sp_Record.hx = none := rfl
  have hx3 : sp_EncodeRecord.hx = none := rfl
  have hx4 : sp_Room.hx = none := rfl
  have hx5 : sp_Append.hx = none := rfl
  have g1 := rec_pre hcf hr
  have g2 := rec_F (S := S) (P := P) (ls := ls) r
  have g3 := mkRec_ok S P ls r hcf.c1 hS1
  obtain ⟨g4, g5⟩ := good_enc g3 hcf.s4 (by omega)
  have q1 := encR_F g3
  have q2 := encR_pre (m := mkRec S r) hcf.ok (by omega)
  have hpos := encR_pos (mkRec S r)
  have bk := pk_bounds n 40 (by decide)
  have pk1 := pk_pre hn (m := 40) (by decide)
  have pk2 := pk_F n 40
  generalize pk n 40 = k at bk pk2
  obtain ⟨z, hz⟩ : ∃ z : Nat, 6000 - k = z := ⟨(6000 - k).toNat, by omega⟩
  have hrep : List.replicate z [D.int .u8 0] = (List.replicate z (0 : Int)).map b8 := by rw [List.map_replicate]; rfl
  have hZl : (List.replicate z (0 : Int)).length = z := List.length_replicate
  generalize List.replicate z (0 : Int) = Z at hrep hZl
  have hb := good_badT (bs := Z) (n := 0) (by omega) (by omega) (by omega)
  have m1 := room_pre (bs := Z) (n := 0) (by omega)
  have m2 := room_F hb
  have hzk : (6000 : Int) - Z.length = k := by omega
  rw [hzk] at m2
  have a1 := app_pre (S := S) (P := P) (ls := ls) (bs := Z) (n := 0) (r := mkRec S r) hcf.ok.1 hcf.s4 (by omega) (by omega) (by omega)
  have a2 := app_F (S := S) (P := P) (ls := ls) (bs := Z) (n := 0) (r := mkRec S r) hb g3
  have a3 := app_full (S := S) (P := P) (ls := ls) (bs := Z) (n := 0) (r := mkRec S r) hb g3
  clear g3 hb
  generalize Z ++ recT1 (mkRec S r) = nb at a2
  generalize encR (mkRec S r) = es at q1 hpos a2 a3 g4
  generalize mkRec S r = x at g2 q1 q2 a1 a2 a3 g5
  obtain ⟨kind, site, m, key, value, ask, yes, sites⟩ := x
  obtain ⟨k', a', b', c', d', e'⟩ := r
  simp only [recC, rawC] at g1 g2 q1 q2 a1 a2 a3
  by_cases hf : 1 + (es.length : Int) ≤ k
  · have a2 := a2 (by omega)
    simp (implicitDefEqProofs := false) (maxSteps := 10000000) [k_seq, k_block, k_skip, k_reg, k_alt, k_cond, k_exit, k_ret, kf_nil, kf_seq_n, kf_seq_e, kf_seq_r, kf_blk_n, kf_blk_e, kf_blk_r, kf_lp_n, kf_lp_e, kf_lp_r, kf_cut_n, kf_cut_e, kf_cut_r, mkTm, VCops, VCalt, istep, act, gd, applyE, wrapD, Opd.ev, get_mk, set_mk, set_mk0, tget16, tset16, tget_0, tset_0, tget_1, tset_1, tget_2, tset_2, tget_3, tset_3, tget_4, tset_4, tget_5, tset_5, tget_6, tset_6, tget_7, tset_7, tget_8, tset_8, tget_9, tset_9, tget_10, tset_10, tget_11, tset_11, tget_12, tset_12, tget_13, tset_13, tget_14, tset_14, tget_15, tset_15, D.un, D.gu, gus, IOp.opds, binD, fnPost, getRes, IRes.get, oneRes, D.out, outL, D.clos, closL, D.norow, norowL, D.lv, lvL, D.scal, scalL, D.cells, D.cell, D.cell', St.lk, obPut, obDel, List.lookup, cut, pickD, splice, fillParts, fillRows, elem_cons, newsOf, D.pl, D.forget, forgetL, Ob.forget, forgetO, eqCells, sg, leD, leDL, leOb, apartK, St.le, D.keys, keysL, D.rows, rowsL, obKeys, addKeys, reach, pos, D.ren, renL, Ob.ren, inM, outM, inObs, outObs, goneK, apartN, okNames_eq, okNms, obNms, namesOK_nil, namesOK_cons, freeOK_nil, freeOK_cons, D.frz, frzL, Ob.frz, frzO, St.frz, forgetLs, dropObs, putObs, hcall, freeOf, keeps, baseN, shD, isShift, shMax, k_bad, VCopsG, frz_nil, actx, actc, cnum, St.frzT, St.opnT, St.clsT, D.opn, opnL, Ob.opn, opnO, ir_reredoskeep_TapeRoom, h0, h1, h2, h3, h4, h5, e3, e4, hx0, hx1, hx2, hx3, hx4, hx5, pk1, pk2, g1, g2, q1, q2, hz, hrep, m1, m2, a1, a2, hf, intsD, rawD, rawC, sp_TapeRoom]
    exact ⟨by simp only [inR]; omega, by omega, fun h => by subst h; simp at hpos, fun _ => by simp only [inR]; omega⟩
  · have a3 := a3 (by omega)
    simp (implicitDefEqProofs := false) (maxSteps := 10000000) [k_seq, k_block, k_skip, k_reg, k_alt, k_cond, k_exit, k_ret, kf_nil, kf_seq_n, kf_seq_e, kf_seq_r, kf_blk_n, kf_blk_e, kf_blk_r, kf_lp_n, kf_lp_e, kf_lp_r, kf_cut_n, kf_cut_e, kf_cut_r, mkTm, VCops, VCalt, istep, act, gd, applyE, wrapD, Opd.ev, get_mk, set_mk, set_mk0, tget16, tset16, tget_0, tset_0, tget_1, tset_1, tget_2, tset_2, tget_3, tset_3, tget_4, tset_4, tget_5, tset_5, tget_6, tset_6, tget_7, tset_7, tget_8, tset_8, tget_9, tset_9, tget_10, tset_10, tget_11, tset_11, tget_12, tset_12, tget_13, tset_13, tget_14, tset_14, tget_15, tset_15, D.un, D.gu, gus, IOp.opds, binD, fnPost, getRes, IRes.get, oneRes, D.out, outL, D.clos, closL, D.norow, norowL, D.lv, lvL, D.scal, scalL, D.cells, D.cell, D.cell', St.lk, obPut, obDel, List.lookup, cut, pickD, splice, fillParts, fillRows, elem_cons, newsOf, D.pl, D.forget, forgetL, Ob.forget, forgetO, eqCells, sg, leD, leDL, leOb, apartK, St.le, D.keys, keysL, D.rows, rowsL, obKeys, addKeys, reach, pos, D.ren, renL, Ob.ren, inM, outM, inObs, outObs, goneK, apartN, okNames_eq, okNms, obNms, namesOK_nil, namesOK_cons, freeOK_nil, freeOK_cons, D.frz, frzL, Ob.frz, frzO, St.frz, forgetLs, dropObs, putObs, hcall, freeOf, keeps, baseN, shD, isShift, shMax, k_bad, VCopsG, frz_nil, actx, actc, cnum, St.frzT, St.opnT, St.clsT, D.opn, opnL, Ob.opn, opnO, ir_reredoskeep_TapeRoom, h0, h1, h2, h3, h4, h5, e3, e4, hx0, hx1, hx2, hx3, hx4, hx5, pk1, pk2, g1, g2, q1, q2, hz, hrep, m1, m2, a1, a3, hf, intsD, rawD, rawC, sp_TapeRoom]
    exact ⟨by simp only [inR]; omega, by omega, fun h => by subst h; simp at hpos, fun _ => by simp only [inR]; omega⟩

set_option maxRecDepth 100000 in
set_option maxHeartbeats 4000000 in
theorem v_TapeKeeps (h0 : T.sp n_reredoskeep_picked = some sp_picked) (h1 : T.sp n_reredoskeep_Config = some sp_Config) (h2 : T.sp n_reredoskeep_records = some sp_records) (h3 : T.sp n_reredoskeep_taped = some sp_taped) (h4 : T.sp n_tape_Recover = some sp_Recover) (h5 : T.sp n_reredoskeep_begins = some sp_begins) (h6 : T.sp n_tape_Crash = some sp_Crash) (h7 : T.sp n_tape_Append = some sp_Append) (h8 : T.sp n_tape_Sync = some sp_Sync) : Verified T ir_reredoskeep_TapeKeeps sp_TapeKeeps := by
  refine Verified.mk ?_
  rintro ds ⟨s, ns, rs, a, k, rfl, hs, hns, hrs, ha, hk⟩
  obtain ⟨S, P, ls, hcf, e4, e3⟩ := cfg_call hs hns
  have hS1 := hcf.s1
  have hx0 : sp_picked.hx = none := rfl
  have hx1 : sp_Config.hx = none := rfl
  have hx2 : sp_records.hx = none := rfl
  have hx3 : sp_taped.hx = none := rfl
  have hx4 : sp_Recover.hx = none := rfl
  have hx5 : sp_begins.hx = none := rfl
  have hx6 : sp_Crash.hx = none := rfl
  have hx7 : sp_Append.hx = none := rfl
  have hx8 : sp_Sync.hx = none := rfl
  have q1 := recs_pre hcf hrs 25 (by decide) (by decide)
  have q2 := recs_F (S := S) (P := P) (ls := ls) rs 25
  have hok := okRecs_mk hcf rs 25
  have e25 : (25 : Int).toNat = 25 := rfl
  rw [e25] at q2
  generalize (rs.take 25).map (mkRec S) = R at q2 hok
  have hRl := hok.2
  have ba := pk_bounds a (R.length + 1) (by omega)
  have pa1 := pk_pre ha (m := R.length + 1) (by omega)
  have pa2 := pk_F a (R.length + 1)
  generalize pk a (R.length + 1) = kk at ba pa2
  obtain ⟨c, rfl⟩ : ∃ c : Nat, kk = c := ⟨kk.toNat, by omega⟩
  have hokc := okRecs_take hok c
  have q3 := taped_pre hcf hokc (by decide)
  have q4 := taped_F (S := S) (P := P) (ls := ls) (R.take c)
  rw [List.map_take] at q3 q4
  have hl := allT_len hcf hok
  have hlc := allT_len hcf hokc
  have hcl := allT_mono R (i := c) (j := R.length) (by omega)
  rw [List.take_length] at hcl
  have s1 := sync_pre (bs := allT (R.take c)) (n := 0) (by omega)
  have s2 := sync_F (good_badT (bs := allT (R.take c)) (n := 0) (by omega) (by omega) (by omega))
  have hmR : (R.map recC).length = R.length := List.length_map ..
  simp (implicitDefEqProofs := false) (maxSteps := 10000000) [k_seq, k_block, k_skip, k_reg, k_alt, k_cond, k_exit, k_ret, kf_nil, kf_seq_n, kf_seq_e, kf_seq_r, kf_blk_n, kf_blk_e, kf_blk_r, kf_lp_n, kf_lp_e, kf_lp_r, kf_cut_n, kf_cut_e, kf_cut_r, mkTm, VCops, VCalt, istep, act, gd, applyE, wrapD, Opd.ev, get_mk, set_mk, set_mk0, tget16, tset16, tget_0, tset_0, tget_1, tset_1, tget_2, tset_2, tget_3, tset_3, tget_4, tset_4, tget_5, tset_5, tget_6, tset_6, tget_7, tset_7, tget_8, tset_8, tget_9, tset_9, tget_10, tset_10, tget_11, tset_11, tget_12, tset_12, tget_13, tset_13, tget_14, tset_14, tget_15, tset_15, D.un, D.gu, gus, IOp.opds, binD, fnPost, getRes, IRes.get, oneRes, D.out, outL, D.clos, closL, D.norow, norowL, D.lv, lvL, D.scal, scalL, D.cells, D.cell, D.cell', St.lk, obPut, obDel, List.lookup, cut, pickD, splice, fillParts, fillRows, elem_cons, newsOf, D.pl, D.forget, forgetL, Ob.forget, forgetO, eqCells, sg, leD, leDL, leOb, apartK, St.le, D.keys, keysL, D.rows, rowsL, obKeys, addKeys, reach, pos, D.ren, renL, Ob.ren, inM, outM, inObs, outObs, goneK, apartN, okNames_eq, okNms, obNms, namesOK_nil, namesOK_cons, freeOK_nil, freeOK_cons, D.frz, frzL, Ob.frz, frzO, St.frz, forgetLs, dropObs, putObs, hcall, freeOf, keeps, baseN, shD, isShift, shMax, k_bad, VCopsG, frz_nil, actx, actc, cnum, St.frzT, St.opnT, St.clsT, D.opn, opnL, Ob.opn, opnO, ir_reredoskeep_TapeKeeps, h0, h1, h2, h3, h8, e3, e4, hx0, hx1, hx2, hx3, hx8, q1, q2, q3, q4, s1, s2, pa1, pa2, hmR, intsD, rawsD, sp_TapeKeeps]
  refine ⟨by simp only [inR]; omega, by omega, ?_⟩
  clear q1 q2 q3 q4 s1 s2
  obtain ⟨n, hn⟩ : ∃ n, n = (allT (R.take c)).length := ⟨_, rfl⟩
  rw [← hn]
  refine k_loop (ι := {i : Nat // c ≤ i ∧ i ≤ R.length}) (fun x => ⟨mkTm 134 0 [(4, .int .i64 k), (11, .own 11 0), (12, .fz 8 (R.map recC)), (13, .int .i64 c), (14, .own 14 0), (15, .bool true), (16, .int .i64 0), (17, .int .i64 n), (18, .int .i64 x.1)], [(11, .box [.int .i64 S, .fz 2 (ls.map lbc), .int .i64 P]), (14, .box [.fz 1 ((allT (R.take x.1)).map b8), .int .i64 n])]⟩)
    (fun x => R.length - x.1) [] ⟨c, by omega, by omega⟩ (by simp (implicitDefEqProofs := false) [k_seq, k_block, k_skip, k_reg, k_alt, k_cond, k_exit, k_ret, kf_nil, kf_seq_n, kf_seq_e, kf_seq_r, kf_blk_n, kf_blk_e, kf_blk_r, kf_lp_n, kf_lp_e, kf_lp_r, kf_cut_n, kf_cut_e, kf_cut_r, mkTm, VCops, VCalt, istep, act, gd, applyE, wrapD, Opd.ev, get_mk, set_mk, set_mk0, tget16, tset16, tget_0, tset_0, tget_1, tset_1, tget_2, tset_2, tget_3, tset_3, tget_4, tset_4, tget_5, tset_5, tget_6, tset_6, tget_7, tset_7, tget_8, tset_8, tget_9, tset_9, tget_10, tset_10, tget_11, tset_11, tget_12, tset_12, tget_13, tset_13, tget_14, tset_14, tget_15, tset_15, D.un, D.gu, gus, IOp.opds, binD, fnPost, getRes, IRes.get, oneRes, D.out, outL, D.clos, closL, D.norow, norowL, D.lv, lvL, D.scal, scalL, D.cells, D.cell, D.cell', St.lk, obPut, obDel, List.lookup, cut, pickD, splice, fillParts, fillRows, elem_cons, newsOf, D.pl, D.forget, forgetL, Ob.forget, forgetO, eqCells, sg, leD, leDL, leOb, apartK, St.le, D.keys, keysL, D.rows, rowsL, obKeys, addKeys, reach, pos, D.ren, renL, Ob.ren, inM, outM, inObs, outObs, goneK, apartN, okNames_eq, okNms, obNms, namesOK_nil, namesOK_cons, freeOK_nil, freeOK_cons, D.frz, frzL, Ob.frz, frzO, St.frz, forgetLs, dropObs, putObs, hcall, freeOf, keeps, baseN, shD, isShift, shMax, k_bad, VCopsG, frz_nil, actx, actc, cnum, St.frzT, St.opnT, St.clsT, D.opn, opnL, Ob.opn, opnO]) ?_
  rintro ⟨i, hi1, hi2⟩ Q hQ
  have hni := allT_mono R hi1
  rw [← hn] at hni
  have hoki := okRecs_take hok i
  have hli := allT_len hcf hoki
  by_cases h : i < R.length
  · have hil : (i : Int) < R.length := by omega
    have hel := elem_map recC R i h
    have hgr := hok.1 _ (List.getElem_mem h)
    have ht : allT (R.take (i + 1)) = allT (R.take i) ++ recT1 R[i] := by
      rw [(List.take_append_getElem h).symm, allT_append, allT_one]
    generalize R[i] = r at hel hgr ht
    obtain ⟨he, hsl⟩ := good_enc hgr hcf.s4 (by omega)
    have hF := app_F (S := S) (P := P) (ls := ls) (bs := allT (R.take i)) (n := n) (good_badT (by omega) (by omega) (by omega)) hgr (by omega)
    have hp := app_pre (S := S) (P := P) (ls := ls) (n := n) (bs := allT (R.take i)) (r := r) hcf.ok.1 hcf.s4 (by omega) (by omega) (by omega)
    rw [← ht] at hF
    generalize allT (R.take i) = bi at hF hp ⊢
    obtain ⟨kind, site, m, key, value, ask, yes, sites⟩ := r
    simp only [recC] at hF hp hel
    simp (implicitDefEqProofs := false) [k_seq, k_block, k_skip, k_reg, k_alt, k_cond, k_exit, k_ret, kf_nil, kf_seq_n, kf_seq_e, kf_seq_r, kf_blk_n, kf_blk_e, kf_blk_r, kf_lp_n, kf_lp_e, kf_lp_r, kf_cut_n, kf_cut_e, kf_cut_r, mkTm, VCops, VCalt, istep, act, gd, applyE, wrapD, Opd.ev, get_mk, set_mk, set_mk0, tget16, tset16, tget_0, tset_0, tget_1, tset_1, tget_2, tset_2, tget_3, tset_3, tget_4, tset_4, tget_5, tset_5, tget_6, tset_6, tget_7, tset_7, tget_8, tset_8, tget_9, tset_9, tget_10, tset_10, tget_11, tset_11, tget_12, tset_12, tget_13, tset_13, tget_14, tset_14, tget_15, tset_15, D.un, D.gu, gus, IOp.opds, binD, fnPost, getRes, IRes.get, oneRes, D.out, outL, D.clos, closL, D.norow, norowL, D.lv, lvL, D.scal, scalL, D.cells, D.cell, D.cell', St.lk, obPut, obDel, List.lookup, cut, pickD, splice, fillParts, fillRows, elem_cons, newsOf, D.pl, D.forget, forgetL, Ob.forget, forgetO, eqCells, sg, leD, leDL, leOb, apartK, St.le, D.keys, keysL, D.rows, rowsL, obKeys, addKeys, reach, pos, D.ren, renL, Ob.ren, inM, outM, inObs, outObs, goneK, apartN, okNames_eq, okNms, obNms, namesOK_nil, namesOK_cons, freeOK_nil, freeOK_cons, D.frz, frzL, Ob.frz, frzO, St.frz, forgetLs, dropObs, putObs, hcall, freeOf, keeps, baseN, shD, isShift, shMax, k_bad, VCopsG, frz_nil, actx, actc, cnum, St.frzT, St.opnT, St.clsT, D.opn, opnL, Ob.opn, opnO, ir_reredoskeep_TapeKeeps_b0, hil, h, hel, h7, hx7, hp, hF]
    refine ⟨by simp only [inR]; omega, hQ _ [] ⟨i + 1, by omega, by omega⟩ ?_ (by simp only; omega)⟩
    simp (implicitDefEqProofs := false) [k_seq, k_block, k_skip, k_reg, k_alt, k_cond, k_exit, k_ret, kf_nil, kf_seq_n, kf_seq_e, kf_seq_r, kf_blk_n, kf_blk_e, kf_blk_r, kf_lp_n, kf_lp_e, kf_lp_r, kf_cut_n, kf_cut_e, kf_cut_r, mkTm, VCops, VCalt, istep, act, gd, applyE, wrapD, Opd.ev, get_mk, set_mk, set_mk0, tget16, tset16, tget_0, tset_0, tget_1, tset_1, tget_2, tset_2, tget_3, tset_3, tget_4, tset_4, tget_5, tset_5, tget_6, tset_6, tget_7, tset_7, tget_8, tset_8, tget_9, tset_9, tget_10, tset_10, tget_11, tset_11, tget_12, tset_12, tget_13, tset_13, tget_14, tset_14, tget_15, tset_15, D.un, D.gu, gus, IOp.opds, binD, fnPost, getRes, IRes.get, oneRes, D.out, outL, D.clos, closL, D.norow, norowL, D.lv, lvL, D.scal, scalL, D.cells, D.cell, D.cell', St.lk, obPut, obDel, List.lookup, cut, pickD, splice, fillParts, fillRows, elem_cons, newsOf, D.pl, D.forget, forgetL, Ob.forget, forgetO, eqCells, sg, leD, leDL, leOb, apartK, St.le, D.keys, keysL, D.rows, rowsL, obKeys, addKeys, reach, pos, D.ren, renL, Ob.ren, inM, outM, inObs, outObs, goneK, apartN, okNames_eq, okNms, obNms, namesOK_nil, namesOK_cons, freeOK_nil, freeOK_cons, D.frz, frzL, Ob.frz, frzO, St.frz, forgetLs, dropObs, putObs, hcall, freeOf, keeps, baseN, shD, isShift, shMax, k_bad, VCopsG, frz_nil, actx, actc, cnum, St.frzT, St.opnT, St.clsT, D.opn, opnL, Ob.opn, opnO]
  · have hiR : i = R.length := by omega
    subst hiR
    rw [List.take_length] at hni hli
    have bk := pk_bounds k 200 (by decide)
    have pk1 := pk_pre hk (m := 200) (by decide)
    have pk2 := pk_F k 200
    generalize pk k 200 = kk at bk pk2
    have hb0 := good_badT (bs := allT R) (n := n) (by omega) (by omega) (by omega)
    have c1 := crash_pre (bs := allT R) (n := n) (k := kk) (by omega)
    have c2 := crash_F hb0 (k := kk) (by omega)
    have hm0 : (n : Int) ≤ crashN (allT R) n kk ∧ crashN (allT R) n kk ≤ (allT R).length := by simp only [crashN]; omega
    generalize crashN (allT R) n kk = m at c2 hm0
    rw [List.map_take] at c2
    obtain ⟨j, j1, r1, r2, r3, r4, r5⟩ := recover_take hcf hok (by decide) m.toNat (by omega) m (by omega) (by omega)
    have hmin : min m ((allT (R.take j)).length : Int) = (allT (R.take j)).length := by omega
    rw [hmin] at r2
    have hjc : c ≤ j := r4 c (by omega) (by omega)
    have hnj := allT_mono R hjc
    rw [← hn] at hnj
    have hc0 : c = 0 ∨ 0 < n := by
      by_cases hz : c = 0
      · exact .inl hz
      · right
        obtain ⟨c', rfl⟩ : ∃ c', c = c' + 1 := ⟨c - 1, by omega⟩
        cases R with
        | nil => simp at hi1
        | cons r R => rw [List.take_succ_cons, allT_cons] at hn; simp at hn; omega
    have bp := beg_pre hcf r5 hok (by decide) (by decide)
    have bF := beg_F (R.take j) R
    have hgl : (R.take j).length = j := by rw [List.length_take]; omega
    rw [hgl, decide_eq_true rfl] at bF
    simp only [List.take_length]
    generalize allT (R.take j) = ub at r2 r3 hnj
    generalize R.take j = G at r2 bp bF hgl
    generalize allT R = bs at c1 c2 hm0 r1 r2 hni ⊢
    simp (implicitDefEqProofs := false) [k_seq, k_block, k_skip, k_reg, k_alt, k_cond, k_exit, k_ret, kf_nil, kf_seq_n, kf_seq_e, kf_seq_r, kf_blk_n, kf_blk_e, kf_blk_r, kf_lp_n, kf_lp_e, kf_lp_r, kf_cut_n, kf_cut_e, kf_cut_r, mkTm, VCops, VCalt, istep, act, gd, applyE, wrapD, Opd.ev, get_mk, set_mk, set_mk0, tget16, tset16, tget_0, tset_0, tget_1, tset_1, tget_2, tset_2, tget_3, tset_3, tget_4, tset_4, tget_5, tset_5, tget_6, tset_6, tget_7, tset_7, tget_8, tset_8, tget_9, tset_9, tget_10, tset_10, tget_11, tset_11, tget_12, tset_12, tget_13, tset_13, tget_14, tset_14, tget_15, tset_15, D.un, D.gu, gus, IOp.opds, binD, fnPost, getRes, IRes.get, oneRes, D.out, outL, D.clos, closL, D.norow, norowL, D.lv, lvL, D.scal, scalL, D.cells, D.cell, D.cell', St.lk, obPut, obDel, List.lookup, cut, pickD, splice, fillParts, fillRows, elem_cons, newsOf, D.pl, D.forget, forgetL, Ob.forget, forgetO, eqCells, sg, leD, leDL, leOb, apartK, St.le, D.keys, keysL, D.rows, rowsL, obKeys, addKeys, reach, pos, D.ren, renL, Ob.ren, inM, outM, inObs, outObs, goneK, apartN, okNames_eq, okNms, obNms, namesOK_nil, namesOK_cons, freeOK_nil, freeOK_cons, D.frz, frzL, Ob.frz, frzO, St.frz, forgetLs, dropObs, putObs, hcall, freeOf, keeps, baseN, shD, isShift, shMax, k_bad, VCopsG, frz_nil, actx, actc, cnum, St.frzT, St.opnT, St.clsT, D.opn, opnL, Ob.opn, opnO, ir_reredoskeep_TapeKeeps_b0, ir_reredoskeep_TapeKeeps_r1, h0, h4, h5, h6, hx0, hx4, hx5, hx6, pk1, pk2, c1, c2, r1, r2, bp, bF, hgl]
    exact ⟨fun _ _ => ⟨⟨hjc, hnj⟩, fun h => ⟨⟨hjc, hnj⟩, h⟩⟩, ⟨hjc, hnj⟩, hc0⟩
end
end Go.Proofs.YteaonhddolfppaaDoor
