/-
  PurgeAll, PurgeTwice and PurgeMore return true. Conditions: those of each specification's 'pre'.
-/
import Derived.Test.YtccoiplnonfkgaaAct5
set_option linter.unusedVariables false
set_option linter.unusedSimpArgs false
namespace Go.Proofs.Ytccoiplnonfkgaa
open Go Go.Vcg

noncomputable def sp_PurgeAll : Sp := { pre := fun ds => ∃ s rs p, ds = [.int .i64 s, rawsD rs, .int .i64 p] ∧ inR .i64 s ∧ okRaws rs ∧ inR .i64 p, F := fun _ => .bool true }
noncomputable def sp_PurgeTwice : Sp := { pre := fun ds => ∃ s ns p rs k, ds = [.int .i64 s, intsD ns, .int .i64 p, rawsD rs, .int .i64 k] ∧ inR .i64 s ∧ okInts ns ∧ inR .i64 p ∧ okRaws rs ∧ inR .i64 k, F := fun _ => .bool true }
noncomputable def sp_PurgeMore : Sp := { pre := fun ds => ∃ s ns p rs a b, ds = [.int .i64 s, intsD ns, .int .i64 p, rawsD rs, .int .i64 a, .int .i64 b] ∧ inR .i64 s ∧ okInts ns ∧ inR .i64 p ∧ okRaws rs ∧ inR .i64 a ∧ inR .i64 b, F := fun _ => .bool true }

/-- What a config of raw numbers is, and acts of it. -/
theorem acts_of (S : Int) (ls : List (Int × Int)) (rs : List Rw) (h1 : 1 ≤ ls.length) (h2 : ls.length ≤ 4) : (∀ x ∈ actsL S ls.length 30 rs [], okLab ls.length x) ∧ (actsL S ls.length 30 rs []).length ≤ 32 := by
  have := actsL_ok S ls.length 30 (by omega) rs [] (by simp) (by simp)
  exact ⟨this.1, by omega⟩

section
variable {T : Tb}
set_option maxRecDepth 100000 in
set_option maxHeartbeats 4000000 in
theorem v_PurgeAll (h1 : T.sp n_reredoskeep_Config = some sp_Config) (h2 : T.sp n_reredoskeep_Acts = some sp_Acts) (h3 : T.sp n_label_Purge = some sp_Purge) (h4 : T.sp n_reredoskeep_seen = some sp_seen) (h5 : T.sp n_reredoskeep_sameActs = some sp_sameActs) : Verified T ir_reredoskeep_PurgeAll sp_PurgeAll := by
  refine Verified.mk ?_
  rintro ds ⟨s, rs, p, rfl, hs, hr, hp⟩
  have b1 := pk_bounds s 3 (by decide)
  have b2 := pk_bounds p 4 (by decide)
  have hcl : cfgLs [0, 3, 8, 11] = [(0, 0), (0, 1), (2, 2), (2, 3)] := by decide
  have c1 := check_config (pk s 3) (pk p 4) [0, 3, 8, 11] b1 b2
  have okn : okInts [0, 3, 8, 11] := ⟨fun n hn => by simp only [inR]; simp at hn; omega, by simp⟩
  have hC := pre_Config hs okn hp
  have gC := F_Config s p [0, 3, 8, 11]
  have hls : ∃ ls, ls = cfgLs [0, 3, 8, 11] := ⟨_, rfl⟩
  obtain ⟨ls, hls⟩ := hls
  rw [← hls] at c1 gC
  have hlen : ls.length = 4 := by rw [hls, hcl]; rfl
  have hab : ∀ i, i < 4 → above (ls.getD 3 (0, 0)) (ls.getD i (0, 0)) = true := by rw [hls, hcl]; decide +kernel
  simp only [ic, List.map_cons, List.map_nil] at hC gC
  obtain ⟨S, hS⟩ : ∃ S, S = 1 + pk s 3 := ⟨_, rfl⟩
  obtain ⟨P, hP⟩ : ∃ P, P = 1 + pk p 4 := ⟨_, rfl⟩
  rw [← hS] at gC c1
  rw [← hP] at gC c1
  have hA := pre_Acts (S := S) (p := P) (ls := ls) (rs := rs) (most := 30) (by omega) (by omega) (by omega) (by omega) hr (by decide) (by decide)
  have gA := F_Acts S P ls rs 30
  obtain ⟨oA, lA⟩ := acts_of S ls rs (by omega) (by omega)
  generalize actsL S ls.length 30 rs [] = A at gA oA lA
  have okA : ∀ x ∈ A, okAc x := fun x hx => okAc_of (by omega) (oA x hx)
  have hU := pre_Purge (S := S) (p := P) (ls := ls) (3 : Int) okA (by omega)
  have gU := F_Purge S P ls A 3
  have hid3 : ∀ i, hid ls 3 i = false := by
    intro i
    simp only [hid]
    by_cases h : 0 ≤ i ∧ i < ls.length
    · rw [hab i.toNat (by omega)]; simp
    · have : (decide (0 ≤ i) && decide (i < ls.length)) = false := by simp; omega
      rw [this]; rfl
  have hpu : purge S ls P 3 A = (A, 0) := by
    have := purge_at c1 (l := 3) (by omega) A
    rw [pur_id ls 3 hid3] at this
    exact this
  rw [hpu] at gU
  have hsame := pre_sameActs A A okA okA (by omega) (by omega)
  simp (implicitDefEqProofs := false) [k_seq, k_block, k_skip, k_reg, k_alt, k_cond, k_exit, k_ret, kf_nil, kf_seq_n, kf_seq_e, kf_seq_r, kf_blk_n, kf_blk_e, kf_blk_r, kf_lp_n, kf_lp_e, kf_lp_r, kf_cut_n, kf_cut_e, kf_cut_r, mkTm, VCops, VCalt, istep, act, gd, applyE, wrapD, Opd.ev, get_mk, set_mk, set_mk0, tget16, tset16, tget_0, tset_0, tget_1, tset_1, tget_2, tset_2, tget_3, tset_3, tget_4, tset_4, tget_5, tset_5, tget_6, tset_6, tget_7, tset_7, tget_8, tset_8, tget_9, tset_9, tget_10, tset_10, tget_11, tset_11, tget_12, tset_12, tget_13, tset_13, tget_14, tset_14, tget_15, tset_15, D.un, D.gu, gus, IOp.opds, binD, fnPost, getRes, IRes.get, oneRes, D.out, outL, D.clos, closL, D.norow, norowL, D.lv, lvL, D.scal, scalL, D.cells, D.cell, D.cell', St.lk, obPut, obDel, List.lookup, cut, pickD, splice, fillParts, fillRows, elem_cons, newsOf, D.pl, D.forget, forgetL, Ob.forget, forgetO, eqCells, sg, leD, leDL, leOb, apartK, St.le, D.keys, keysL, D.rows, rowsL, obKeys, addKeys, reach, pos, D.ren, renL, Ob.ren, inM, outM, inObs, outObs, goneK, apartN, okNames, D.frz, frzL, Ob.frz, frzO, St.frz, forgetLs, dropObs, putObs, hcall, freeOf, keeps, baseN, shD, isShift, shMax, k_bad, ir_reredoskeep_PurgeAll, h1, h2, h3, sp_PurgeAll, rawsD, hx_Config, hC, gC, hx_Acts, hA, gA, hx_Purge, hU, gU]
  refine k_loop (ι := {k : Nat // k ≤ 3}) (fun x => ⟨mkTm 40 0 [(7, .own 7 0), (8, .fz 12 (A.map actC)), (9, .fz 12 (A.map actC)), (10, .int .i64 0), (11, .int .i64 x.1)], [(7, .box [.int .i64 S, .fz 2 (ls.map lbc), .int .i64 P])]⟩)
    (fun x => 3 - x.1) [] ⟨0, by omega⟩ (by simp [k_seq, k_block, k_skip, k_reg, k_alt, k_cond, k_exit, k_ret, kf_nil, kf_seq_n, kf_seq_e, kf_seq_r, kf_blk_n, kf_blk_e, kf_blk_r, kf_lp_n, kf_lp_e, kf_lp_r, kf_cut_n, kf_cut_e, kf_cut_r, mkTm, VCops, VCalt, istep, act, gd, applyE, wrapD, Opd.ev, get_mk, set_mk, set_mk0, tget16, tset16, tget_0, tset_0, tget_1, tset_1, tget_2, tset_2, tget_3, tset_3, tget_4, tset_4, tget_5, tset_5, tget_6, tset_6, tget_7, tset_7, tget_8, tset_8, tget_9, tset_9, tget_10, tset_10, tget_11, tset_11, tget_12, tset_12, tget_13, tset_13, tget_14, tset_14, tget_15, tset_15, D.un, D.gu, gus, IOp.opds, binD, fnPost, getRes, IRes.get, oneRes, D.out, outL, D.clos, closL, D.norow, norowL, D.lv, lvL, D.scal, scalL, D.cells, D.cell, D.cell', St.lk, obPut, obDel, List.lookup, cut, pickD, splice, fillParts, fillRows, elem_cons, newsOf, D.pl, D.forget, forgetL, Ob.forget, forgetO, eqCells, sg, leD, leDL, leOb, apartK, St.le, D.keys, keysL, D.rows, rowsL, obKeys, addKeys, reach, pos, D.ren, renL, Ob.ren, inM, outM, inObs, outObs, goneK, apartN, okNames, D.frz, frzL, Ob.frz, frzO, St.frz, forgetLs, dropObs, putObs, hcall, freeOf, keeps, baseN, shD, isShift, shMax, k_bad]) ?_
  rintro ⟨k, hk⟩ Q hQ
  rcases Nat.lt_or_ge k 3 with h | h
  · have hk1 : (k : Int) < 3 := by omega
    have hse : seen S ls P 3 k = true := by rw [show (3 : Int) = ((3 : Nat) : Int) from rfl, seen_at c1 (by omega) (by omega)]; exact hab k (by omega)
    simp (implicitDefEqProofs := false) [k_seq, k_block, k_skip, k_reg, k_alt, k_cond, k_exit, k_ret, kf_nil, kf_seq_n, kf_seq_e, kf_seq_r, kf_blk_n, kf_blk_e, kf_blk_r, kf_lp_n, kf_lp_e, kf_lp_r, kf_cut_n, kf_cut_e, kf_cut_r, mkTm, VCops, VCalt, istep, act, gd, applyE, wrapD, Opd.ev, get_mk, set_mk, set_mk0, tget16, tset16, tget_0, tset_0, tget_1, tset_1, tget_2, tset_2, tget_3, tset_3, tget_4, tset_4, tget_5, tset_5, tget_6, tset_6, tget_7, tset_7, tget_8, tset_8, tget_9, tset_9, tget_10, tset_10, tget_11, tset_11, tget_12, tset_12, tget_13, tset_13, tget_14, tset_14, tget_15, tset_15, D.un, D.gu, gus, IOp.opds, binD, fnPost, getRes, IRes.get, oneRes, D.out, outL, D.clos, closL, D.norow, norowL, D.lv, lvL, D.scal, scalL, D.cells, D.cell, D.cell', St.lk, obPut, obDel, List.lookup, cut, pickD, splice, fillParts, fillRows, elem_cons, newsOf, D.pl, D.forget, forgetL, Ob.forget, forgetO, eqCells, sg, leD, leDL, leOb, apartK, St.le, D.keys, keysL, D.rows, rowsL, obKeys, addKeys, reach, pos, D.ren, renL, Ob.ren, inM, outM, inObs, outObs, goneK, apartN, okNames, D.frz, frzL, Ob.frz, frzO, St.frz, forgetLs, dropObs, putObs, hcall, freeOf, keeps, baseN, shD, isShift, shMax, k_bad, ir_reredoskeep_PurgeAll_b0, hk1, h4, hx_seen, pre_seen, F_seen, hse]
    exact ⟨by simp only [inR]; omega, hQ _ [] ⟨k + 1, by omega⟩ (by simp [k_seq, k_block, k_skip, k_reg, k_alt, k_cond, k_exit, k_ret, kf_nil, kf_seq_n, kf_seq_e, kf_seq_r, kf_blk_n, kf_blk_e, kf_blk_r, kf_lp_n, kf_lp_e, kf_lp_r, kf_cut_n, kf_cut_e, kf_cut_r, mkTm, VCops, VCalt, istep, act, gd, applyE, wrapD, Opd.ev, get_mk, set_mk, set_mk0, tget16, tset16, tget_0, tset_0, tget_1, tset_1, tget_2, tset_2, tget_3, tset_3, tget_4, tset_4, tget_5, tset_5, tget_6, tset_6, tget_7, tset_7, tget_8, tset_8, tget_9, tset_9, tget_10, tset_10, tget_11, tset_11, tget_12, tset_12, tget_13, tset_13, tget_14, tset_14, tget_15, tset_15, D.un, D.gu, gus, IOp.opds, binD, fnPost, getRes, IRes.get, oneRes, D.out, outL, D.clos, closL, D.norow, norowL, D.lv, lvL, D.scal, scalL, D.cells, D.cell, D.cell', St.lk, obPut, obDel, List.lookup, cut, pickD, splice, fillParts, fillRows, elem_cons, newsOf, D.pl, D.forget, forgetL, Ob.forget, forgetO, eqCells, sg, leD, leDL, leOb, apartK, St.le, D.keys, keysL, D.rows, rowsL, obKeys, addKeys, reach, pos, D.ren, renL, Ob.ren, inM, outM, inObs, outObs, goneK, apartN, okNames, D.frz, frzL, Ob.frz, frzO, St.frz, forgetLs, dropObs, putObs, hcall, freeOf, keeps, baseN, shD, isShift, shMax, k_bad]) (by simp; omega)⟩
  · have hk1 : ¬ (k : Int) < 3 := by omega
    simp (implicitDefEqProofs := false) [k_seq, k_block, k_skip, k_reg, k_alt, k_cond, k_exit, k_ret, kf_nil, kf_seq_n, kf_seq_e, kf_seq_r, kf_blk_n, kf_blk_e, kf_blk_r, kf_lp_n, kf_lp_e, kf_lp_r, kf_cut_n, kf_cut_e, kf_cut_r, mkTm, VCops, VCalt, istep, act, gd, applyE, wrapD, Opd.ev, get_mk, set_mk, set_mk0, tget16, tset16, tget_0, tset_0, tget_1, tset_1, tget_2, tset_2, tget_3, tset_3, tget_4, tset_4, tget_5, tset_5, tget_6, tset_6, tget_7, tset_7, tget_8, tset_8, tget_9, tset_9, tget_10, tset_10, tget_11, tset_11, tget_12, tset_12, tget_13, tset_13, tget_14, tset_14, tget_15, tset_15, D.un, D.gu, gus, IOp.opds, binD, fnPost, getRes, IRes.get, oneRes, D.out, outL, D.clos, closL, D.norow, norowL, D.lv, lvL, D.scal, scalL, D.cells, D.cell, D.cell', St.lk, obPut, obDel, List.lookup, cut, pickD, splice, fillParts, fillRows, elem_cons, newsOf, D.pl, D.forget, forgetL, Ob.forget, forgetO, eqCells, sg, leD, leDL, leOb, apartK, St.le, D.keys, keysL, D.rows, rowsL, obKeys, addKeys, reach, pos, D.ren, renL, Ob.ren, inM, outM, inObs, outObs, goneK, apartN, okNames, D.frz, frzL, Ob.frz, frzO, St.frz, forgetLs, dropObs, putObs, hcall, freeOf, keeps, baseN, shD, isShift, shMax, k_bad, ir_reredoskeep_PurgeAll_b0, ir_reredoskeep_PurgeAll_r1, hk1, h5, hx_sameActs, hsame, F_sameActs]

/-- A config of raw numbers and its acts. -/
theorem cfg_facts {s p : Int} {ns : List Int} (hs : inR .i64 s) (hn : okInts ns) (hp : inR .i64 p) : ∃ S ls P, (∀ x ∈ ls, x ∈ lcases) ∧ 1 ≤ ls.length ∧ ls.length ≤ 4 ∧ 1 ≤ S ∧ S ≤ 4 ∧ check S ls P = 0 ∧ sp_Config.pre [.int .i64 s, .fz 1 (ns.map ic), .int .i64 p] = True ∧ sp_Config.F [.int .i64 s, .fz 1 (ns.map ic), .int .i64 p] = .agg [.int .i64 S, .fz 2 (ls.map lbc), .int .i64 P] := by
  have b1 := pk_bounds s 3 (by decide)
  have b2 := pk_bounds p 4 (by decide)
  have hg := cfgLs_good ns
  exact ⟨1 + pk s 3, cfgLs ns, 1 + pk p 4, hg.2.1, hg.2.2.1, hg.2.2.2, by omega, by omega, check_config (pk s 3) (pk p 4) ns b1 b2, pre_Config hs hn hp, F_Config s p ns⟩

set_option maxRecDepth 100000 in
set_option maxHeartbeats 4000000 in
theorem v_PurgeMore (h0 : T.sp n_reredoskeep_picked = some sp_picked) (h1 : T.sp n_reredoskeep_Config = some sp_Config) (h2 : T.sp n_reredoskeep_Acts = some sp_Acts) (h3 : T.sp n_label_Purge = some sp_Purge) (h4 : T.sp n_reredoskeep_seen = some sp_seen) (h5 : T.sp n_reredoskeep_sameActs = some sp_sameActs) : Verified T ir_reredoskeep_PurgeMore sp_PurgeMore := by
  refine Verified.mk ?_
  rintro ds ⟨s, ns, p, rs, a, b, rfl, hs, hn, hp, hr, ha, hb⟩
  obtain ⟨S, ls, P, hlc, l1, l2, s1, s2, c1, hC, gC⟩ := cfg_facts hs hn hp
  have hA := pre_Acts (S := S) (p := P) (ls := ls) (rs := rs) (most := 30) (by omega) (by omega) (by omega) (by omega) hr (by decide) (by decide)
  have gA := F_Acts S P ls rs 30
  obtain ⟨oA, lA⟩ := acts_of S ls rs (by omega) (by omega)
  generalize actsL S ls.length 30 rs [] = A at gA oA lA
  have okA : ∀ x ∈ A, okAc x := fun x hx => okAc_of (by omega) (oA x hx)
  have bx := pk_bounds a ls.length (by omega)
  have byy := pk_bounds b ls.length (by omega)
  have px := pre_picked ha (m := (ls.length : Int)) (by omega)
  have py := pre_picked hb (m := (ls.length : Int)) (by omega)
  have gx := F_picked a ls.length
  have gy := F_picked b ls.length
  generalize pk a ls.length = x at gx bx
  generalize pk b ls.length = y at gy byy
  obtain ⟨x, rfl⟩ := Int.eq_ofNat_of_zero_le bx.1
  obtain ⟨y, rfl⟩ := Int.eq_ofNat_of_zero_le byy.1
  have hxl : x < ls.length := by omega
  have hyl : y < ls.length := by omega
  have hxx : seen S ls P x x = true := by rw [seen_at c1 hxl hxl]; exact above_refl' _ (getD_mem hxl hlc)
  have okX : ∀ z ∈ pur ls x A, okAc z := fun z hz => okAc_of (L := ls.length) (by omega) (pur_ok oA z hz)
  have okY : ∀ z ∈ pur ls y A, okAc z := fun z hz => okAc_of (L := ls.length) (by omega) (pur_ok oA z hz)
  have lX := pur_length ls x A
  have lY := pur_length ls y A
  have hU1 := pre_Purge (S := S) (p := P) (ls := ls) (x : Int) okA (by omega)
  have hU2 := pre_Purge (S := S) (p := P) (ls := ls) (y : Int) okA (by omega)
  have hU3 := pre_Purge (S := S) (p := P) (ls := ls) (y : Int) okX (by omega)
  have gU1 := F_Purge S P ls A x
  have gU2 := F_Purge S P ls A y
  have gU3 := F_Purge S P ls (pur ls x A) y
  rw [purge_at c1 hxl] at gU1
  rw [purge_at c1 hyl] at gU2 gU3
  by_cases hse : seen S ls P x y = true
  · have hmono := hid_mono hxl hyl hlc (by rw [← seen_at c1 hxl hyl]; exact hse)
    rw [pur_pur ls x y hmono] at gU3
    have hsame := pre_sameActs (pur ls y A) (pur ls y A) okY okY (by omega) (by omega)
    simp (implicitDefEqProofs := false) [k_seq, k_block, k_skip, k_reg, k_alt, k_cond, k_exit, k_ret, kf_nil, kf_seq_n, kf_seq_e, kf_seq_r, kf_blk_n, kf_blk_e, kf_blk_r, kf_lp_n, kf_lp_e, kf_lp_r, kf_cut_n, kf_cut_e, kf_cut_r, mkTm, VCops, VCalt, istep, act, gd, applyE, wrapD, Opd.ev, get_mk, set_mk, set_mk0, tget16, tset16, tget_0, tset_0, tget_1, tset_1, tget_2, tset_2, tget_3, tset_3, tget_4, tset_4, tget_5, tset_5, tget_6, tset_6, tget_7, tset_7, tget_8, tset_8, tget_9, tset_9, tget_10, tset_10, tget_11, tset_11, tget_12, tset_12, tget_13, tset_13, tget_14, tset_14, tget_15, tset_15, D.un, D.gu, gus, IOp.opds, binD, fnPost, getRes, IRes.get, oneRes, D.out, outL, D.clos, closL, D.norow, norowL, D.lv, lvL, D.scal, scalL, D.cells, D.cell, D.cell', St.lk, obPut, obDel, List.lookup, cut, pickD, splice, fillParts, fillRows, elem_cons, newsOf, D.pl, D.forget, forgetL, Ob.forget, forgetO, eqCells, sg, leD, leDL, leOb, apartK, St.le, D.keys, keysL, D.rows, rowsL, obKeys, addKeys, reach, pos, D.ren, renL, Ob.ren, inM, outM, inObs, outObs, goneK, apartN, okNames, D.frz, frzL, Ob.frz, frzO, St.frz, forgetLs, dropObs, putObs, hcall, freeOf, keeps, baseN, shD, isShift, shMax, k_bad, ir_reredoskeep_PurgeMore, h0, h1, h2, h3, h4, h5, sp_PurgeMore, intsD, rawsD, hx_Config, hC, gC, hx_Acts, hA, gA, hx_Purge, hU1, gU1, hU2, gU2, hU3, gU3, hx_picked, px, gx, py, gy, hx_seen, pre_seen, F_seen, hxx, hse, hx_sameActs, hsame, F_sameActs]
  · have hse : seen S ls P x y = false := by simpa using hse
    simp (implicitDefEqProofs := false) [k_seq, k_block, k_skip, k_reg, k_alt, k_cond, k_exit, k_ret, kf_nil, kf_seq_n, kf_seq_e, kf_seq_r, kf_blk_n, kf_blk_e, kf_blk_r, kf_lp_n, kf_lp_e, kf_lp_r, kf_cut_n, kf_cut_e, kf_cut_r, mkTm, VCops, VCalt, istep, act, gd, applyE, wrapD, Opd.ev, get_mk, set_mk, set_mk0, tget16, tset16, tget_0, tset_0, tget_1, tset_1, tget_2, tset_2, tget_3, tset_3, tget_4, tset_4, tget_5, tset_5, tget_6, tset_6, tget_7, tset_7, tget_8, tset_8, tget_9, tset_9, tget_10, tset_10, tget_11, tset_11, tget_12, tset_12, tget_13, tset_13, tget_14, tset_14, tget_15, tset_15, D.un, D.gu, gus, IOp.opds, binD, fnPost, getRes, IRes.get, oneRes, D.out, outL, D.clos, closL, D.norow, norowL, D.lv, lvL, D.scal, scalL, D.cells, D.cell, D.cell', St.lk, obPut, obDel, List.lookup, cut, pickD, splice, fillParts, fillRows, elem_cons, newsOf, D.pl, D.forget, forgetL, Ob.forget, forgetO, eqCells, sg, leD, leDL, leOb, apartK, St.le, D.keys, keysL, D.rows, rowsL, obKeys, addKeys, reach, pos, D.ren, renL, Ob.ren, inM, outM, inObs, outObs, goneK, apartN, okNames, D.frz, frzL, Ob.frz, frzO, St.frz, forgetLs, dropObs, putObs, hcall, freeOf, keeps, baseN, shD, isShift, shMax, k_bad, ir_reredoskeep_PurgeMore, h0, h1, h2, h3, h4, h5, sp_PurgeMore, intsD, rawsD, hx_Config, hC, gC, hx_Acts, hA, gA, hx_Purge, hU1, gU1, hU2, gU2, hU3, gU3, hx_picked, px, gx, py, gy, hx_seen, pre_seen, F_seen, hxx, hse]

set_option maxRecDepth 100000 in
set_option maxHeartbeats 4000000 in
theorem v_PurgeTwice (h0 : T.sp n_reredoskeep_picked = some sp_picked) (h1 : T.sp n_reredoskeep_Config = some sp_Config) (h2 : T.sp n_reredoskeep_Acts = some sp_Acts) (h3 : T.sp n_label_Purge = some sp_Purge) (h4 : T.sp n_reredoskeep_seen = some sp_seen) (h5 : T.sp n_reredoskeep_sameActs = some sp_sameActs) : Verified T ir_reredoskeep_PurgeTwice sp_PurgeTwice := by
  refine Verified.mk ?_
  rintro ds ⟨s, ns, p, rs, a, rfl, hs, hn, hp, hr, ha⟩
  obtain ⟨S, ls, P, hlc, l1, l2, s1, s2, c1, hC, gC⟩ := cfg_facts hs hn hp
  have hA := pre_Acts (S := S) (p := P) (ls := ls) (rs := rs) (most := 30) (by omega) (by omega) (by omega) (by omega) hr (by decide) (by decide)
  have gA := F_Acts S P ls rs 30
  obtain ⟨oA, lA⟩ := acts_of S ls rs (by omega) (by omega)
  generalize actsL S ls.length 30 rs [] = A at gA oA lA
  have okA : ∀ x ∈ A, okAc x := fun x hx => okAc_of (by omega) (oA x hx)
  have bx := pk_bounds a ls.length (by omega)
  have px := pre_picked ha (m := (ls.length : Int)) (by omega)
  have gx := F_picked a ls.length
  generalize pk a ls.length = x at gx bx
  obtain ⟨x, rfl⟩ := Int.eq_ofNat_of_zero_le bx.1
  have hxl : x < ls.length := by omega
  have oX := pur_ok (ls := ls) (l := x) oA
  have okX : ∀ z ∈ pur ls x A, okAc z := fun z hz => okAc_of (L := ls.length) (by omega) (oX z hz)
  have lX := pur_length ls x A
  have hU1 := pre_Purge (S := S) (p := P) (ls := ls) (x : Int) okA (by omega)
  have hU2 := pre_Purge (S := S) (p := P) (ls := ls) (x : Int) okX (by omega)
  have hU3 := pre_Purge (S := S) (p := P) (ls := ls) (ac := []) (ls.length : Int) (by simp) (by simp)
  have gU1 := F_Purge S P ls A x
  have gU2 := F_Purge S P ls (pur ls x A) x
  have gU3 := F_Purge S P ls [] ls.length
  rw [purge_at c1 hxl] at gU1 gU2
  rw [pur_pur ls x x (fun _ h => h)] at gU2
  rw [purge_out c1] at gU3
  simp only [List.map_nil] at gU3 hU3
  have hsame := pre_sameActs (pur ls x A) (pur ls x A) okX okX (by omega) (by omega)
  have hse : ∀ b ∈ pur ls x A, b.kind ≠ 5 → b.kind ≠ 7 → b.kind ≠ 6 → seen S ls P x b.label = true := by
    intro b hb h5 h7 h6
    have h := pur_seen hb h5 h7 h6
    obtain ⟨_, o1, o2⟩ := oX b hb
    obtain ⟨n, hn⟩ := Int.eq_ofNat_of_zero_le o1
    rw [hn] at h o2 ⊢
    have hn : n < ls.length := by omega
    rw [seen_at c1 hxl hn]
    rw [hid_false hn] at h
    simpa using h
  generalize pur ls x A = B at oX okX lX hU2 gU1 gU2 hsame hse
  simp (implicitDefEqProofs := false) [k_seq, k_block, k_skip, k_reg, k_alt, k_cond, k_exit, k_ret, kf_nil, kf_seq_n, kf_seq_e, kf_seq_r, kf_blk_n, kf_blk_e, kf_blk_r, kf_lp_n, kf_lp_e, kf_lp_r, kf_cut_n, kf_cut_e, kf_cut_r, mkTm, VCops, VCalt, istep, act, gd, applyE, wrapD, Opd.ev, get_mk, set_mk, set_mk0, tget16, tset16, tget_0, tset_0, tget_1, tset_1, tget_2, tset_2, tget_3, tset_3, tget_4, tset_4, tget_5, tset_5, tget_6, tset_6, tget_7, tset_7, tget_8, tset_8, tget_9, tset_9, tget_10, tset_10, tget_11, tset_11, tget_12, tset_12, tget_13, tset_13, tget_14, tset_14, tget_15, tset_15, D.un, D.gu, gus, IOp.opds, binD, fnPost, getRes, IRes.get, oneRes, D.out, outL, D.clos, closL, D.norow, norowL, D.lv, lvL, D.scal, scalL, D.cells, D.cell, D.cell', St.lk, obPut, obDel, List.lookup, cut, pickD, splice, fillParts, fillRows, elem_cons, newsOf, D.pl, D.forget, forgetL, Ob.forget, forgetO, eqCells, sg, leD, leDL, leOb, apartK, St.le, D.keys, keysL, D.rows, rowsL, obKeys, addKeys, reach, pos, D.ren, renL, Ob.ren, inM, outM, inObs, outObs, goneK, apartN, okNames, D.frz, frzL, Ob.frz, frzO, St.frz, forgetLs, dropObs, putObs, hcall, freeOf, keeps, baseN, shD, isShift, shMax, k_bad, ir_reredoskeep_PurgeTwice, h0, h1, h2, h3, h4, h5, sp_PurgeTwice, intsD, rawsD, hx_Config, hC, gC, hx_Acts, hA, gA, hx_Purge, hU1, gU1, hU2, gU2, hU3, gU3, hx_picked, px, gx, hx_sameActs, hsame, F_sameActs]
  refine k_loop (ι := {k : Nat // k ≤ B.length}) (fun q => ⟨mkTm 98 0 [(11, .own 11 0), (12, .int .i64 x), (70, .fz 12 (B.map actC)), (71, .int .i64 B.length), (72, .int .i64 q.1)], [(11, .box [.int .i64 S, .fz 2 (ls.map lbc), .int .i64 P])]⟩)
    (fun x => B.length - x.1) [] ⟨0, by omega⟩ (by simp [k_seq, k_block, k_skip, k_reg, k_alt, k_cond, k_exit, k_ret, kf_nil, kf_seq_n, kf_seq_e, kf_seq_r, kf_blk_n, kf_blk_e, kf_blk_r, kf_lp_n, kf_lp_e, kf_lp_r, kf_cut_n, kf_cut_e, kf_cut_r, mkTm, VCops, VCalt, istep, act, gd, applyE, wrapD, Opd.ev, get_mk, set_mk, set_mk0, tget16, tset16, tget_0, tset_0, tget_1, tset_1, tget_2, tset_2, tget_3, tset_3, tget_4, tset_4, tget_5, tset_5, tget_6, tset_6, tget_7, tset_7, tget_8, tset_8, tget_9, tset_9, tget_10, tset_10, tget_11, tset_11, tget_12, tset_12, tget_13, tset_13, tget_14, tset_14, tget_15, tset_15, D.un, D.gu, gus, IOp.opds, binD, fnPost, getRes, IRes.get, oneRes, D.out, outL, D.clos, closL, D.norow, norowL, D.lv, lvL, D.scal, scalL, D.cells, D.cell, D.cell', St.lk, obPut, obDel, List.lookup, cut, pickD, splice, fillParts, fillRows, elem_cons, newsOf, D.pl, D.forget, forgetL, Ob.forget, forgetO, eqCells, sg, leD, leDL, leOb, apartK, St.le, D.keys, keysL, D.rows, rowsL, obKeys, addKeys, reach, pos, D.ren, renL, Ob.ren, inM, outM, inObs, outObs, goneK, apartN, okNames, D.frz, frzL, Ob.frz, frzO, St.frz, forgetLs, dropObs, putObs, hcall, freeOf, keeps, baseN, shD, isShift, shMax, k_bad]) ?_
  rintro ⟨k, hk⟩ Q hQ
  rcases Nat.lt_or_ge k B.length with h | h
  · have hk1 : (k : Int) < B.length := by omega
    have e1 := elem_map actC B k h
    have hb := hse _ (List.getElem_mem h)
    have hps := pre_seen S ls P x
    have gps := F_seen S ls P x
    generalize B[k] = b at e1 hb
    obtain ⟨x1, x2, x3, x4, x5, x6, ⟨u1, u2, u3, u4, u5⟩, x7⟩ := b
    simp only at hb
    have hfin : ∀ s', (∃ σ, St.le σ s' ⟨mkTm 98 0 [(11, .own 11 0), (12, .int .i64 x), (70, .fz 12 (B.map actC)), (71, .int .i64 B.length), (72, .int .i64 ((k + 1 : Nat) : Int))], [(11, .box [.int .i64 S, .fz 2 (ls.map lbc), .int .i64 P])]⟩) → Q s' := fun s' ⟨σ, hs⟩ => hQ s' σ ⟨k + 1, by omega⟩ hs (by simp; omega)
    by_cases k5 : x1 = 5
    · subst k5
      simp (implicitDefEqProofs := false) [k_seq, k_block, k_skip, k_reg, k_alt, k_cond, k_exit, k_ret, kf_nil, kf_seq_n, kf_seq_e, kf_seq_r, kf_blk_n, kf_blk_e, kf_blk_r, kf_lp_n, kf_lp_e, kf_lp_r, kf_cut_n, kf_cut_e, kf_cut_r, mkTm, VCops, VCalt, istep, act, gd, applyE, wrapD, Opd.ev, get_mk, set_mk, set_mk0, tget16, tset16, tget_0, tset_0, tget_1, tset_1, tget_2, tset_2, tget_3, tset_3, tget_4, tset_4, tget_5, tset_5, tget_6, tset_6, tget_7, tset_7, tget_8, tset_8, tget_9, tset_9, tget_10, tset_10, tget_11, tset_11, tget_12, tset_12, tget_13, tset_13, tget_14, tset_14, tget_15, tset_15, D.un, D.gu, gus, IOp.opds, binD, fnPost, getRes, IRes.get, oneRes, D.out, outL, D.clos, closL, D.norow, norowL, D.lv, lvL, D.scal, scalL, D.cells, D.cell, D.cell', St.lk, obPut, obDel, List.lookup, cut, pickD, splice, fillParts, fillRows, elem_cons, newsOf, D.pl, D.forget, forgetL, Ob.forget, forgetO, eqCells, sg, leD, leDL, leOb, apartK, St.le, D.keys, keysL, D.rows, rowsL, obKeys, addKeys, reach, pos, D.ren, renL, Ob.ren, inM, outM, inObs, outObs, goneK, apartN, okNames, D.frz, frzL, Ob.frz, frzO, St.frz, forgetLs, dropObs, putObs, hcall, freeOf, keeps, baseN, shD, isShift, shMax, k_bad, ir_reredoskeep_PurgeTwice_b0, hk1, h, e1, actC, h4, hx_seen, hps, gps]
      exact ⟨by simp only [inR]; omega, hfin _ ⟨[], by simp [k_seq, k_block, k_skip, k_reg, k_alt, k_cond, k_exit, k_ret, kf_nil, kf_seq_n, kf_seq_e, kf_seq_r, kf_blk_n, kf_blk_e, kf_blk_r, kf_lp_n, kf_lp_e, kf_lp_r, kf_cut_n, kf_cut_e, kf_cut_r, mkTm, VCops, VCalt, istep, act, gd, applyE, wrapD, Opd.ev, get_mk, set_mk, set_mk0, tget16, tset16, tget_0, tset_0, tget_1, tset_1, tget_2, tset_2, tget_3, tset_3, tget_4, tset_4, tget_5, tset_5, tget_6, tset_6, tget_7, tset_7, tget_8, tset_8, tget_9, tset_9, tget_10, tset_10, tget_11, tset_11, tget_12, tset_12, tget_13, tset_13, tget_14, tset_14, tget_15, tset_15, D.un, D.gu, gus, IOp.opds, binD, fnPost, getRes, IRes.get, oneRes, D.out, outL, D.clos, closL, D.norow, norowL, D.lv, lvL, D.scal, scalL, D.cells, D.cell, D.cell', St.lk, obPut, obDel, List.lookup, cut, pickD, splice, fillParts, fillRows, elem_cons, newsOf, D.pl, D.forget, forgetL, Ob.forget, forgetO, eqCells, sg, leD, leDL, leOb, apartK, St.le, D.keys, keysL, D.rows, rowsL, obKeys, addKeys, reach, pos, D.ren, renL, Ob.ren, inM, outM, inObs, outObs, goneK, apartN, okNames, D.frz, frzL, Ob.frz, frzO, St.frz, forgetLs, dropObs, putObs, hcall, freeOf, keeps, baseN, shD, isShift, shMax, k_bad]⟩⟩
    · by_cases k7 : x1 = 7
      · subst k7
        simp (implicitDefEqProofs := false) [k_seq, k_block, k_skip, k_reg, k_alt, k_cond, k_exit, k_ret, kf_nil, kf_seq_n, kf_seq_e, kf_seq_r, kf_blk_n, kf_blk_e, kf_blk_r, kf_lp_n, kf_lp_e, kf_lp_r, kf_cut_n, kf_cut_e, kf_cut_r, mkTm, VCops, VCalt, istep, act, gd, applyE, wrapD, Opd.ev, get_mk, set_mk, set_mk0, tget16, tset16, tget_0, tset_0, tget_1, tset_1, tget_2, tset_2, tget_3, tset_3, tget_4, tset_4, tget_5, tset_5, tget_6, tset_6, tget_7, tset_7, tget_8, tset_8, tget_9, tset_9, tget_10, tset_10, tget_11, tset_11, tget_12, tset_12, tget_13, tset_13, tget_14, tset_14, tget_15, tset_15, D.un, D.gu, gus, IOp.opds, binD, fnPost, getRes, IRes.get, oneRes, D.out, outL, D.clos, closL, D.norow, norowL, D.lv, lvL, D.scal, scalL, D.cells, D.cell, D.cell', St.lk, obPut, obDel, List.lookup, cut, pickD, splice, fillParts, fillRows, elem_cons, newsOf, D.pl, D.forget, forgetL, Ob.forget, forgetO, eqCells, sg, leD, leDL, leOb, apartK, St.le, D.keys, keysL, D.rows, rowsL, obKeys, addKeys, reach, pos, D.ren, renL, Ob.ren, inM, outM, inObs, outObs, goneK, apartN, okNames, D.frz, frzL, Ob.frz, frzO, St.frz, forgetLs, dropObs, putObs, hcall, freeOf, keeps, baseN, shD, isShift, shMax, k_bad, ir_reredoskeep_PurgeTwice_b0, hk1, h, e1, actC, h4, hx_seen, hps, gps]
        exact ⟨by simp only [inR]; omega, hfin _ ⟨[], by simp [k_seq, k_block, k_skip, k_reg, k_alt, k_cond, k_exit, k_ret, kf_nil, kf_seq_n, kf_seq_e, kf_seq_r, kf_blk_n, kf_blk_e, kf_blk_r, kf_lp_n, kf_lp_e, kf_lp_r, kf_cut_n, kf_cut_e, kf_cut_r, mkTm, VCops, VCalt, istep, act, gd, applyE, wrapD, Opd.ev, get_mk, set_mk, set_mk0, tget16, tset16, tget_0, tset_0, tget_1, tset_1, tget_2, tset_2, tget_3, tset_3, tget_4, tset_4, tget_5, tset_5, tget_6, tset_6, tget_7, tset_7, tget_8, tset_8, tget_9, tset_9, tget_10, tset_10, tget_11, tset_11, tget_12, tset_12, tget_13, tset_13, tget_14, tset_14, tget_15, tset_15, D.un, D.gu, gus, IOp.opds, binD, fnPost, getRes, IRes.get, oneRes, D.out, outL, D.clos, closL, D.norow, norowL, D.lv, lvL, D.scal, scalL, D.cells, D.cell, D.cell', St.lk, obPut, obDel, List.lookup, cut, pickD, splice, fillParts, fillRows, elem_cons, newsOf, D.pl, D.forget, forgetL, Ob.forget, forgetO, eqCells, sg, leD, leDL, leOb, apartK, St.le, D.keys, keysL, D.rows, rowsL, obKeys, addKeys, reach, pos, D.ren, renL, Ob.ren, inM, outM, inObs, outObs, goneK, apartN, okNames, D.frz, frzL, Ob.frz, frzO, St.frz, forgetLs, dropObs, putObs, hcall, freeOf, keeps, baseN, shD, isShift, shMax, k_bad]⟩⟩
      · by_cases k6 : x1 = 6
        · subst k6
          simp (implicitDefEqProofs := false) [k_seq, k_block, k_skip, k_reg, k_alt, k_cond, k_exit, k_ret, kf_nil, kf_seq_n, kf_seq_e, kf_seq_r, kf_blk_n, kf_blk_e, kf_blk_r, kf_lp_n, kf_lp_e, kf_lp_r, kf_cut_n, kf_cut_e, kf_cut_r, mkTm, VCops, VCalt, istep, act, gd, applyE, wrapD, Opd.ev, get_mk, set_mk, set_mk0, tget16, tset16, tget_0, tset_0, tget_1, tset_1, tget_2, tset_2, tget_3, tset_3, tget_4, tset_4, tget_5, tset_5, tget_6, tset_6, tget_7, tset_7, tget_8, tset_8, tget_9, tset_9, tget_10, tset_10, tget_11, tset_11, tget_12, tset_12, tget_13, tset_13, tget_14, tset_14, tget_15, tset_15, D.un, D.gu, gus, IOp.opds, binD, fnPost, getRes, IRes.get, oneRes, D.out, outL, D.clos, closL, D.norow, norowL, D.lv, lvL, D.scal, scalL, D.cells, D.cell, D.cell', St.lk, obPut, obDel, List.lookup, cut, pickD, splice, fillParts, fillRows, elem_cons, newsOf, D.pl, D.forget, forgetL, Ob.forget, forgetO, eqCells, sg, leD, leDL, leOb, apartK, St.le, D.keys, keysL, D.rows, rowsL, obKeys, addKeys, reach, pos, D.ren, renL, Ob.ren, inM, outM, inObs, outObs, goneK, apartN, okNames, D.frz, frzL, Ob.frz, frzO, St.frz, forgetLs, dropObs, putObs, hcall, freeOf, keeps, baseN, shD, isShift, shMax, k_bad, ir_reredoskeep_PurgeTwice_b0, hk1, h, e1, actC, h4, hx_seen, hps, gps]
          exact ⟨by simp only [inR]; omega, hfin _ ⟨[], by simp [k_seq, k_block, k_skip, k_reg, k_alt, k_cond, k_exit, k_ret, kf_nil, kf_seq_n, kf_seq_e, kf_seq_r, kf_blk_n, kf_blk_e, kf_blk_r, kf_lp_n, kf_lp_e, kf_lp_r, kf_cut_n, kf_cut_e, kf_cut_r, mkTm, VCops, VCalt, istep, act, gd, applyE, wrapD, Opd.ev, get_mk, set_mk, set_mk0, tget16, tset16, tget_0, tset_0, tget_1, tset_1, tget_2, tset_2, tget_3, tset_3, tget_4, tset_4, tget_5, tset_5, tget_6, tset_6, tget_7, tset_7, tget_8, tset_8, tget_9, tset_9, tget_10, tset_10, tget_11, tset_11, tget_12, tset_12, tget_13, tset_13, tget_14, tset_14, tget_15, tset_15, D.un, D.gu, gus, IOp.opds, binD, fnPost, getRes, IRes.get, oneRes, D.out, outL, D.clos, closL, D.norow, norowL, D.lv, lvL, D.scal, scalL, D.cells, D.cell, D.cell', St.lk, obPut, obDel, List.lookup, cut, pickD, splice, fillParts, fillRows, elem_cons, newsOf, D.pl, D.forget, forgetL, Ob.forget, forgetO, eqCells, sg, leD, leDL, leOb, apartK, St.le, D.keys, keysL, D.rows, rowsL, obKeys, addKeys, reach, pos, D.ren, renL, Ob.ren, inM, outM, inObs, outObs, goneK, apartN, okNames, D.frz, frzL, Ob.frz, frzO, St.frz, forgetLs, dropObs, putObs, hcall, freeOf, keeps, baseN, shD, isShift, shMax, k_bad]⟩⟩
        · have hb := hb k5 k7 k6
          simp (implicitDefEqProofs := false) [k_seq, k_block, k_skip, k_reg, k_alt, k_cond, k_exit, k_ret, kf_nil, kf_seq_n, kf_seq_e, kf_seq_r, kf_blk_n, kf_blk_e, kf_blk_r, kf_lp_n, kf_lp_e, kf_lp_r, kf_cut_n, kf_cut_e, kf_cut_r, mkTm, VCops, VCalt, istep, act, gd, applyE, wrapD, Opd.ev, get_mk, set_mk, set_mk0, tget16, tset16, tget_0, tset_0, tget_1, tset_1, tget_2, tset_2, tget_3, tset_3, tget_4, tset_4, tget_5, tset_5, tget_6, tset_6, tget_7, tset_7, tget_8, tset_8, tget_9, tset_9, tget_10, tset_10, tget_11, tset_11, tget_12, tset_12, tget_13, tset_13, tget_14, tset_14, tget_15, tset_15, D.un, D.gu, gus, IOp.opds, binD, fnPost, getRes, IRes.get, oneRes, D.out, outL, D.clos, closL, D.norow, norowL, D.lv, lvL, D.scal, scalL, D.cells, D.cell, D.cell', St.lk, obPut, obDel, List.lookup, cut, pickD, splice, fillParts, fillRows, elem_cons, newsOf, D.pl, D.forget, forgetL, Ob.forget, forgetO, eqCells, sg, leD, leDL, leOb, apartK, St.le, D.keys, keysL, D.rows, rowsL, obKeys, addKeys, reach, pos, D.ren, renL, Ob.ren, inM, outM, inObs, outObs, goneK, apartN, okNames, D.frz, frzL, Ob.frz, frzO, St.frz, forgetLs, dropObs, putObs, hcall, freeOf, keeps, baseN, shD, isShift, shMax, k_bad, ir_reredoskeep_PurgeTwice_b0, hk1, h, e1, actC, h4, hx_seen, hps, gps, k5, k6, k7, hb]
          exact ⟨by simp only [inR]; omega, hfin _ ⟨[], by simp [k_seq, k_block, k_skip, k_reg, k_alt, k_cond, k_exit, k_ret, kf_nil, kf_seq_n, kf_seq_e, kf_seq_r, kf_blk_n, kf_blk_e, kf_blk_r, kf_lp_n, kf_lp_e, kf_lp_r, kf_cut_n, kf_cut_e, kf_cut_r, mkTm, VCops, VCalt, istep, act, gd, applyE, wrapD, Opd.ev, get_mk, set_mk, set_mk0, tget16, tset16, tget_0, tset_0, tget_1, tset_1, tget_2, tset_2, tget_3, tset_3, tget_4, tset_4, tget_5, tset_5, tget_6, tset_6, tget_7, tset_7, tget_8, tset_8, tget_9, tset_9, tget_10, tset_10, tget_11, tset_11, tget_12, tset_12, tget_13, tset_13, tget_14, tset_14, tget_15, tset_15, D.un, D.gu, gus, IOp.opds, binD, fnPost, getRes, IRes.get, oneRes, D.out, outL, D.clos, closL, D.norow, norowL, D.lv, lvL, D.scal, scalL, D.cells, D.cell, D.cell', St.lk, obPut, obDel, List.lookup, cut, pickD, splice, fillParts, fillRows, elem_cons, newsOf, D.pl, D.forget, forgetL, Ob.forget, forgetO, eqCells, sg, leD, leDL, leOb, apartK, St.le, D.keys, keysL, D.rows, rowsL, obKeys, addKeys, reach, pos, D.ren, renL, Ob.ren, inM, outM, inObs, outObs, goneK, apartN, okNames, D.frz, frzL, Ob.frz, frzO, St.frz, forgetLs, dropObs, putObs, hcall, freeOf, keeps, baseN, shD, isShift, shMax, k_bad]⟩⟩
  · have hk1 : ¬ (k : Int) < B.length := by omega
    simp (implicitDefEqProofs := false) [k_seq, k_block, k_skip, k_reg, k_alt, k_cond, k_exit, k_ret, kf_nil, kf_seq_n, kf_seq_e, kf_seq_r, kf_blk_n, kf_blk_e, kf_blk_r, kf_lp_n, kf_lp_e, kf_lp_r, kf_cut_n, kf_cut_e, kf_cut_r, mkTm, VCops, VCalt, istep, act, gd, applyE, wrapD, Opd.ev, get_mk, set_mk, set_mk0, tget16, tset16, tget_0, tset_0, tget_1, tset_1, tget_2, tset_2, tget_3, tset_3, tget_4, tset_4, tget_5, tset_5, tget_6, tset_6, tget_7, tset_7, tget_8, tset_8, tget_9, tset_9, tget_10, tset_10, tget_11, tset_11, tget_12, tset_12, tget_13, tset_13, tget_14, tset_14, tget_15, tset_15, D.un, D.gu, gus, IOp.opds, binD, fnPost, getRes, IRes.get, oneRes, D.out, outL, D.clos, closL, D.norow, norowL, D.lv, lvL, D.scal, scalL, D.cells, D.cell, D.cell', St.lk, obPut, obDel, List.lookup, cut, pickD, splice, fillParts, fillRows, elem_cons, newsOf, D.pl, D.forget, forgetL, Ob.forget, forgetO, eqCells, sg, leD, leDL, leOb, apartK, St.le, D.keys, keysL, D.rows, rowsL, obKeys, addKeys, reach, pos, D.ren, renL, Ob.ren, inM, outM, inObs, outObs, goneK, apartN, okNames, D.frz, frzL, Ob.frz, frzO, St.frz, forgetLs, dropObs, putObs, hcall, freeOf, keeps, baseN, shD, isShift, shMax, k_bad, ir_reredoskeep_PurgeTwice_b0, ir_reredoskeep_PurgeTwice_r1, hk1]
end
end Go.Proofs.Ytccoiplnonfkgaa
