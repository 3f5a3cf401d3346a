/-
  Acts: the small functions on them compute what the plain functions beside them say. Conditions: those of each specification's 'pre'.
-/
import Derived.Test.YtgioabhamihfmaaGreatDoorLb
import Derived.Test.YtgioabhamihfmaaGreatDoorCfgGood
set_option linter.unusedVariables false
set_option linter.unusedSimpArgs false
namespace Go.Proofs.YtgioabhamihfmaaGreatDoor
open Go Go.Vcg

/-! ### Raw numbers -/
structure Rw where
  (k a b c d e : Int)
def rawC (r : Rw) : List D := [.int .i64 r.k, .int .i64 r.a, .int .i64 r.b, .int .i64 r.c, .int .i64 r.d, .int .i64 r.e]
def rawD (r : Rw) : D := .agg (rawC r)
def okRaw (r : Rw) : Prop := inR .i64 r.k ∧ inR .i64 r.a ∧ inR .i64 r.b ∧ inR .i64 r.c ∧ inR .i64 r.d ∧ inR .i64 r.e
def rwL (r : Rw) : List Int := [r.k, r.a, r.b, r.c, r.d, r.e]
theorem rw_of {ns : List Int} (h : ns.length = 6) (w : ∀ n ∈ ns, inR .i64 n) : ∃ r : Rw, ns = rwL r ∧ okRaw r := by
  match ns, h with
  | [k, a, b, c, d, e], _ => exact ⟨⟨k, a, b, c, d, e⟩, rfl, w k (by simp), w a (by simp), w b (by simp), w c (by simp), w d (by simp), w e (by simp)⟩
def rawsD (l : List Rw) : D := .fz 6 (l.map rawC)
theorem rws_of : ∀ {rs : List (List Int)}, (∀ ns ∈ rs, ns.length = 6 ∧ ∀ n ∈ ns, inR .i64 n) → ∃ l : List Rw, rs = l.map rwL ∧ ∀ r ∈ l, okRaw r
  | [], _ => ⟨[], rfl, by simp⟩
  | ns :: rs, h => by
    obtain ⟨r, rfl, h1⟩ := rw_of (h ns (by simp)).1 (h ns (by simp)).2
    obtain ⟨l, rfl, h2⟩ := rws_of (rs := rs) fun x hx => h x (by simp [hx])
    exact ⟨r :: l, rfl, fun x hx => by
      rcases List.mem_cons.1 hx with rfl | hx
      · exact h1
      · exact h2 x hx⟩
theorem rd_raws {X : Nat → Prop} {w : World} {c : Option Cx} {l : List Rw} {v : Value} (h : Rd X w c (.fz 6 ((l.map rwL).map fun ns => ns.map (.int .i64))) v) : Rd X w c (rawsD l) v := by
  rw [List.map_map] at h; exact h
def okRaws (l : List Rw) : Prop := (∀ r ∈ l, okRaw r) ∧ l.length ≤ 9223372036854775807

/-! ### Calls -/
structure Cl5 where
  (kind n label key value : Int)
def clC (x : Cl5) : List D := [.int .i64 x.kind, .int .i64 x.n, .int .i64 x.label, .int .i64 x.key, .int .i64 x.value]
def mkAsk (k a b c d : Int) : Cl5 :=
  ⟨1 + pk k 5, if 1 + pk k 5 = 1 then 0 else 1 + pk a 4, if 1 + pk k 5 = 2 then pk b 3 else 0, if 1 + pk k 5 = 2 ∨ 1 + pk k 5 = 3 then pk c 4 else 0, if 1 + pk k 5 = 3 then pk d 99 else 0⟩
def rawOf : D → Rw
  | .agg [.int _ k, .int _ a, .int _ b, .int _ c, .int _ d, .int _ e] => ⟨k, a, b, c, d, e⟩
  | _ => ⟨0, 0, 0, 0, 0, 0⟩
def sp_ask : Sp := { pre := fun ds => ∃ r, ds = [rawD r] ∧ okRaw r, F := fun | [x] => .agg (clC (mkAsk (rawOf x).k (rawOf x).a (rawOf x).b (rawOf x).c (rawOf x).d)) | _ => .any }

/-! ### Texts -/
def dig (n : Int) : List UInt8 := [UInt8.ofNat ((48 + n) % 256).toNat]
def sp_dec : Sp := { pre := fun ds => ∃ n, ds = [.int .i64 n] ∧ 0 ≤ n ∧ n < 10, F := fun | [.int _ n] => .str (dig n) | _ => .any }
def textAt (i : Int) : List UInt8 := if i = 1 then [108, 105, 115, 116, 115] else if i = 2 then [115, 116, 97, 116, 117, 115, 32, 49, 32, 49] else if i = 3 then [102, 111, 114, 99, 101, 32, 48, 32, 48, 32, 49] else if i = 4 then [97, 117, 100, 105, 116, 32] else if i = 5 then [115, 116, 97, 116, 117, 115, 32, 48, 32, 48, 32, 48, 49] else []
def wordAt (i : Int) : List UInt8 := if i = 1 then [97, 98, 111, 114, 116] else [99, 111, 109, 109, 105, 116]
def txn3 (r : Rw) : List UInt8 := dig (pk r.a 4) ++ [32] ++ dig (pk r.b 3) ++ [32] ++ dig (1 + pk r.c 4)
def typedL (f : Bool) (r : Rw) : List UInt8 :=
  if pk r.d 8 < 3 then [108, 105, 115, 116] else if pk r.d 8 < 5 then [115, 116, 97, 116, 117, 115, 32] ++ txn3 r else if pk r.d 8 = 5 then [97, 117, 100, 105, 116]
  else if pk r.d 8 = 6 ∧ f = true then [102, 111, 114, 99, 101, 32] ++ txn3 r ++ [32] ++ wordAt (pk r.e 2) else textAt (pk r.e 6)
def sp_typed : Sp := { pre := fun ds => ∃ r f, ds = [rawD r, .bool f] ∧ okRaw r, F := fun | [x, .bool f] => .str (typedL f (rawOf x)) | _ => .any }
theorem elem_words {i : Int} (h0 : 0 ≤ i) (h1 : i < 2) : elem [[.str [99, 111, 109, 109, 105, 116]], [.str [97, 98, 111, 114, 116]]] i.toNat = [.str (wordAt i)] := by
  have : i = 0 ∨ i = 1 := by omega
  rcases this with rfl | rfl <;> rfl
theorem elem_texts {i : Int} (h0 : 0 ≤ i) (h1 : i < 6) : elem [[.str []], [.str [108, 105, 115, 116, 115]], [.str [115, 116, 97, 116, 117, 115, 32, 49, 32, 49]], [.str [102, 111, 114, 99, 101, 32, 48, 32, 48, 32, 49]], [.str [97, 117, 100, 105, 116, 32]], [.str [115, 116, 97, 116, 117, 115, 32, 48, 32, 48, 32, 48, 49]]] i.toNat = [.str (textAt i)] := by
  have : i = 0 ∨ i = 1 ∨ i = 2 ∨ i = 3 ∨ i = 4 ∨ i = 5 := by omega
  rcases this with rfl | rfl | rfl | rfl | rfl | rfl <;> rfl

/-! ### Acts -/
structure Ac where
  (kind site to label pick : Int) (keep : List Int) (call : Cl5) (line : List UInt8)
def actC (a : Ac) : List D := [.int .i64 a.kind, .int .i64 a.site, .int .i64 a.to, .int .i64 a.label, .int .i64 a.pick, .fz 1 (a.keep.map ic), .int .i64 a.call.kind, .int .i64 a.call.n, .int .i64 a.call.label, .int .i64 a.call.key, .int .i64 a.call.value, .str a.line]
def actD (a : Ac) : D := .agg (actC a)
def actL : List D → Ac
  | [.int _ a, .int _ b, .int _ c, .int _ d, .int _ e, .fz _ ks, .int _ f, .int _ g, .int _ h, .int _ i, .int _ j, .str l] => ⟨a, b, c, d, e, ks.map intOf, ⟨f, g, h, i, j⟩, l⟩
  | _ => ⟨0, 0, 0, 0, 0, [], ⟨0, 0, 0, 0, 0⟩, []⟩
theorem actL_actC (a : Ac) : actL (actC a) = a := by
  obtain ⟨_, _, _, _, _, _, ⟨_, _, _, _, _⟩, _⟩ := a
  simp [actC, actL, intOf_ic]
def actsD (l : List Ac) : D := .fz 12 (l.map actC)
def actsOf : D → List Ac
  | .fz _ es => es.map actL
  | _ => []
theorem actsOf_actsD (l : List Ac) : actsOf (actsD l) = l := by
  simp only [actsOf, actsD, List.map_map]
  have : actL ∘ actC = id := funext actL_actC
  rw [this, List.map_id]
/-- An act that may be. -/
def okAc (a : Ac) : Prop := a.keep.length ≤ 1000000

def sp_place : Sp := { pre := fun ds => ∃ x l, ds = [x, .int .i64 l] ∧ isCfg x = true, F := fun | [x, .int _ l] => .bool (decide (0 ≤ l) && decide (l < (cfgOf x).2.1.length)) | _ => .any }
/-- The act, its slice in memory of its own. -/
def ownC (a : Ac) : List D := [.int .i64 a.kind, .int .i64 a.site, .int .i64 a.to, .int .i64 a.label, .int .i64 a.pick, .row 0, .int .i64 a.call.kind, .int .i64 a.call.n, .int .i64 a.call.label, .int .i64 a.call.key, .int .i64 a.call.value, .str a.line]
def hs_own : HSp := { pre := fun ds ob => ob = [] ∧ ∃ a, ds = [actD a] ∧ okAc a, F := fun ds _ => match ds with | [.agg cs] => (.agg (ownC (actL cs)), [(0, .row 1 ((actL cs).keep.map ic))]) | _ => (.any, []) }
def sp_own : Sp := { pre := fun _ => False, F := fun _ => .any, hx := some hs_own }

def sameI : List Int → List Int → Bool
  | [], [] => true
  | a :: r, b :: s => (a == b) && sameI r s
  | _, _ => false
def sp_sameInts : Sp := { pre := fun ds => ∃ a b, ds = [intsD a, intsD b] ∧ a.length ≤ 1000000 ∧ b.length ≤ 1000000, F := fun | [x, y] => .bool (decide (intsOf x = intsOf y)) | _ => .any }

section
variable {T : Tb}
theorem v_dec : Verified T ir_reredoskeep_dec sp_dec := by
  refine Verified.mk ?_
  rintro ds ⟨n, rfl, h0, h1⟩
  simp (implicitDefEqProofs := false) [isMl, VCopsM, mstep, mchk, lchk, kchk, IOp.isB, k_seq, k_block, k_skip, k_reg, k_alt, k_cond, k_exit, k_ret, kf_nil, kf_seq_n, kf_seq_e, kf_seq_r, kf_blk_n, kf_blk_e, kf_blk_r, kf_lp_n, kf_lp_e, kf_lp_r, kf_cut_n, kf_cut_e, kf_cut_r, mkTm, VCops, VCalt, istep, act, gd, applyE, wrapD, Opd.ev, get_mk, set_mk, set_mk0, tget16, tset16, tget_0, tset_0, tget_1, tset_1, tget_2, tset_2, tget_3, tset_3, tget_4, tset_4, tget_5, tset_5, tget_6, tset_6, tget_7, tset_7, tget_8, tset_8, tget_9, tset_9, tget_10, tset_10, tget_11, tset_11, tget_12, tset_12, tget_13, tset_13, tget_14, tset_14, tget_15, tset_15, D.un, D.gu, gus, IOp.opds, binD, fnPost, getRes, IRes.get, oneRes, D.out, outL, D.clos, closL, D.norow, norowL, D.lv, lvL, D.scal, scalL, D.cells, D.cell, D.cell', St.lk, obPut, obDel, List.lookup, cut, pickD, splice, fillParts, fillRows, elem_cons, newsOf, D.pl, D.forget, forgetL, Ob.forget, forgetO, eqCells, sg, leD, leDL, leOb, apartK, St.le, D.keys, keysL, D.rows, rowsL, obKeys, addKeys, reach, pos, D.ren, renL, Ob.ren, inM, outM, inObs, outObs, goneK, apartN, okNames_eq, okNms, obNms, namesOK_nil, namesOK_cons, freeOK_nil, freeOK_cons, D.frz, frzL, Ob.frz, frzO, St.frz, forgetLs, dropObs, putObs, hcall, freeOf, keeps, baseN, shD, isShift, shMax, k_bad, VCopsG, frz_nil, actx, actc, cnum, vwCut, St.frzT, St.opnT, St.clsT, D.opn, opnL, Ob.opn, opnO, VCou, VCcx, St.oneS, D.objI, D.objK, St.objP, St.objQ, St.pathR, St.pathI, pathL, scrL, D.scr, St.opnS, St.clsS, D.cellS, D.fzs, fzsL, k_mrk, k_mrq, IOper.gh, St.bxS, D.tob, tobL, Ob.tob, tobO, zI, zC, zw, zz, zg, zm, zi, zb, zf, zl, za, zs, zn, zo, zd, zy, zu, ze, zk, zt, zc, zp, ir_reredoskeep_dec, sp_dec, h1, bytesOf, dig]
  simp only [inR]; omega

set_option maxRecDepth 100000 in
theorem v_ask (h1 : T.sp n_reredoskeep_picked = some sp_picked) : Verified T ir_reredoskeep_ask sp_ask := by
  refine Verified.mk ?_
  rintro ds ⟨⟨k, a, b, c, d, e⟩, rfl, r1, r2, r3, r4, r5, r6⟩
  simp only at r1 r2 r3 r4 r5 r6
  have b5 := pk_bounds k 5 (by decide)
  have b4 := pk_bounds a 4 (by decide)
  have hin : inR .i64 (1 + pk k 5) := by simp only [inR]; omega
  have hin2 : inR .i64 (1 + pk a 4) := by simp only [inR]; omega
  simp (implicitDefEqProofs := false) [isMl, VCopsM, mstep, mchk, lchk, kchk, IOp.isB, k_seq, k_block, k_skip, k_reg, k_alt, k_cond, k_exit, k_ret, kf_nil, kf_seq_n, kf_seq_e, kf_seq_r, kf_blk_n, kf_blk_e, kf_blk_r, kf_lp_n, kf_lp_e, kf_lp_r, kf_cut_n, kf_cut_e, kf_cut_r, mkTm, VCops, VCalt, istep, act, gd, applyE, wrapD, Opd.ev, get_mk, set_mk, set_mk0, tget16, tset16, tget_0, tset_0, tget_1, tset_1, tget_2, tset_2, tget_3, tset_3, tget_4, tset_4, tget_5, tset_5, tget_6, tset_6, tget_7, tset_7, tget_8, tset_8, tget_9, tset_9, tget_10, tset_10, tget_11, tset_11, tget_12, tset_12, tget_13, tset_13, tget_14, tset_14, tget_15, tset_15, D.un, D.gu, gus, IOp.opds, binD, fnPost, getRes, IRes.get, oneRes, D.out, outL, D.clos, closL, D.norow, norowL, D.lv, lvL, D.scal, scalL, D.cells, D.cell, D.cell', St.lk, obPut, obDel, List.lookup, cut, pickD, splice, fillParts, fillRows, elem_cons, newsOf, D.pl, D.forget, forgetL, Ob.forget, forgetO, eqCells, sg, leD, leDL, leOb, apartK, St.le, D.keys, keysL, D.rows, rowsL, obKeys, addKeys, reach, pos, D.ren, renL, Ob.ren, inM, outM, inObs, outObs, goneK, apartN, okNames_eq, okNms, obNms, namesOK_nil, namesOK_cons, freeOK_nil, freeOK_cons, D.frz, frzL, Ob.frz, frzO, St.frz, forgetLs, dropObs, putObs, hcall, freeOf, keeps, baseN, shD, isShift, shMax, k_bad, VCopsG, frz_nil, actx, actc, cnum, vwCut, St.frzT, St.opnT, St.clsT, D.opn, opnL, Ob.opn, opnO, VCou, VCcx, St.oneS, D.objI, D.objK, St.objP, St.objQ, St.pathR, St.pathI, pathL, scrL, D.scr, St.opnS, St.clsS, D.cellS, D.fzs, fzsL, k_mrk, k_mrq, IOper.gh, St.bxS, D.tob, tobL, Ob.tob, tobO, zI, zC, zw, zz, zg, zm, zi, zb, zf, zl, za, zs, zn, zo, zd, zy, zu, ze, zk, zt, zc, zp, ir_reredoskeep_ask, sp_ask, h1, sp_picked, rawD, rawC, rawOf, hin, hin2, r1, r2, r3, r4, r5, r6, and_assoc, clC, mkAsk]
  repeat' (first | apply And.intro | intro _)
  all_goals simp_all

set_option maxRecDepth 100000 in
theorem v_typed (h1 : T.sp n_reredoskeep_picked = some sp_picked) (h2 : T.sp n_reredoskeep_dec = some sp_dec) : Verified T ir_reredoskeep_typed sp_typed := by
  refine Verified.mk ?_
  rintro ds ⟨⟨k, a, b, c, d, e⟩, f, rfl, r1, r2, r3, r4, r5, r6⟩
  simp only at r1 r2 r3 r4 r5 r6
  have b4 := pk_bounds a 4 (by decide)
  have b3 := pk_bounds b 3 (by decide)
  have c4 := pk_bounds c 4 (by decide)
  have e2 := pk_bounds e 2 (by decide)
  have e6 := pk_bounds e 6 (by decide)
  have hin2 : inR .i64 (1 + pk c 4) := by simp only [inR]; omega
  have k1 : pk a 4 < 10 := by omega
  have k2 : pk b 3 < 10 := by omega
  have k3 : 0 ≤ 1 + pk c 4 := by omega
  have k4 : 1 + pk c 4 < 10 := by omega
  have l1 := elem_words e2.1 e2.2
  have l2 := elem_texts e6.1 e6.2
  have hw : (wordAt (pk e 2)).length ≤ 6 := by unfold wordAt; split <;> simp
  cases f
  · simp (implicitDefEqProofs := false) [isMl, VCopsM, mstep, mchk, lchk, kchk, IOp.isB, k_seq, k_block, k_skip, k_reg, k_alt, k_cond, k_exit, k_ret, kf_nil, kf_seq_n, kf_seq_e, kf_seq_r, kf_blk_n, kf_blk_e, kf_blk_r, kf_lp_n, kf_lp_e, kf_lp_r, kf_cut_n, kf_cut_e, kf_cut_r, mkTm, VCops, VCalt, istep, act, gd, applyE, wrapD, Opd.ev, get_mk, set_mk, set_mk0, tget16, tset16, tget_0, tset_0, tget_1, tset_1, tget_2, tset_2, tget_3, tset_3, tget_4, tset_4, tget_5, tset_5, tget_6, tset_6, tget_7, tset_7, tget_8, tset_8, tget_9, tset_9, tget_10, tset_10, tget_11, tset_11, tget_12, tset_12, tget_13, tset_13, tget_14, tset_14, tget_15, tset_15, D.un, D.gu, gus, IOp.opds, binD, fnPost, getRes, IRes.get, oneRes, D.out, outL, D.clos, closL, D.norow, norowL, D.lv, lvL, D.scal, scalL, D.cells, D.cell, D.cell', St.lk, obPut, obDel, List.lookup, cut, pickD, splice, fillParts, fillRows, elem_cons, newsOf, D.pl, D.forget, forgetL, Ob.forget, forgetO, eqCells, sg, leD, leDL, leOb, apartK, St.le, D.keys, keysL, D.rows, rowsL, obKeys, addKeys, reach, pos, D.ren, renL, Ob.ren, inM, outM, inObs, outObs, goneK, apartN, okNames_eq, okNms, obNms, namesOK_nil, namesOK_cons, freeOK_nil, freeOK_cons, D.frz, frzL, Ob.frz, frzO, St.frz, forgetLs, dropObs, putObs, hcall, freeOf, keeps, baseN, shD, isShift, shMax, k_bad, VCopsG, frz_nil, actx, actc, cnum, vwCut, St.frzT, St.opnT, St.clsT, D.opn, opnL, Ob.opn, opnO, VCou, VCcx, St.oneS, D.objI, D.objK, St.objP, St.objQ, St.pathR, St.pathI, pathL, scrL, D.scr, St.opnS, St.clsS, D.cellS, D.fzs, fzsL, k_mrk, k_mrq, IOper.gh, St.bxS, D.tob, tobL, Ob.tob, tobO, zI, zC, zw, zz, zg, zm, zi, zb, zf, zl, za, zs, zn, zo, zd, zy, zu, ze, zk, zt, zc, zp, ir_reredoskeep_typed, sp_typed, h1, h2, sp_picked, sp_dec, dig, rawD, rawC, rawOf, hin2, k1, k2, k3, k4, b4, b3, e2, e6, l1, l2, r1, r2, r3, r4, r5, r6, and_assoc, typedL, txn3]
    repeat' (first | apply And.intro | intro _)
    all_goals first | omega | (split <;> first | rfl | omega | (split <;> first | rfl | omega | (split <;> first | rfl | omega | (split <;> first | rfl | omega))))
  · simp (implicitDefEqProofs := false) [isMl, VCopsM, mstep, mchk, lchk, kchk, IOp.isB, k_seq, k_block, k_skip, k_reg, k_alt, k_cond, k_exit, k_ret, kf_nil, kf_seq_n, kf_seq_e, kf_seq_r, kf_blk_n, kf_blk_e, kf_blk_r, kf_lp_n, kf_lp_e, kf_lp_r, kf_cut_n, kf_cut_e, kf_cut_r, mkTm, VCops, VCalt, istep, act, gd, applyE, wrapD, Opd.ev, get_mk, set_mk, set_mk0, tget16, tset16, tget_0, tset_0, tget_1, tset_1, tget_2, tset_2, tget_3, tset_3, tget_4, tset_4, tget_5, tset_5, tget_6, tset_6, tget_7, tset_7, tget_8, tset_8, tget_9, tset_9, tget_10, tset_10, tget_11, tset_11, tget_12, tset_12, tget_13, tset_13, tget_14, tset_14, tget_15, tset_15, D.un, D.gu, gus, IOp.opds, binD, fnPost, getRes, IRes.get, oneRes, D.out, outL, D.clos, closL, D.norow, norowL, D.lv, lvL, D.scal, scalL, D.cells, D.cell, D.cell', St.lk, obPut, obDel, List.lookup, cut, pickD, splice, fillParts, fillRows, elem_cons, newsOf, D.pl, D.forget, forgetL, Ob.forget, forgetO, eqCells, sg, leD, leDL, leOb, apartK, St.le, D.keys, keysL, D.rows, rowsL, obKeys, addKeys, reach, pos, D.ren, renL, Ob.ren, inM, outM, inObs, outObs, goneK, apartN, okNames_eq, okNms, obNms, namesOK_nil, namesOK_cons, freeOK_nil, freeOK_cons, D.frz, frzL, Ob.frz, frzO, St.frz, forgetLs, dropObs, putObs, hcall, freeOf, keeps, baseN, shD, isShift, shMax, k_bad, VCopsG, frz_nil, actx, actc, cnum, vwCut, St.frzT, St.opnT, St.clsT, D.opn, opnL, Ob.opn, opnO, VCou, VCcx, St.oneS, D.objI, D.objK, St.objP, St.objQ, St.pathR, St.pathI, pathL, scrL, D.scr, St.opnS, St.clsS, D.cellS, D.fzs, fzsL, k_mrk, k_mrq, IOper.gh, St.bxS, D.tob, tobL, Ob.tob, tobO, zI, zC, zw, zz, zg, zm, zi, zb, zf, zl, za, zs, zn, zo, zd, zy, zu, ze, zk, zt, zc, zp, ir_reredoskeep_typed, sp_typed, h1, h2, sp_picked, sp_dec, dig, rawD, rawC, rawOf, hin2, k1, k2, k3, k4, b4, b3, e2, e6, l1, l2, r1, r2, r3, r4, r5, r6, and_assoc, typedL, txn3]
    repeat' (first | apply And.intro | intro _)
    all_goals first | omega | (split <;> first | rfl | omega | (split <;> first | rfl | omega | (split <;> first | rfl | omega | (split <;> first | rfl | omega))))
end
end Go.Proofs.YtgioabhamihfmaaGreatDoor
