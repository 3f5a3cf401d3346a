/-
  Messages: what makes them and what checks them compute what the plain functions beside them say. Conditions: those of each specification's 'pre'.
-/
import Derived.Test.YtopdccbcknlepaaDoorCfgGood
set_option linter.unusedVariables false
set_option linter.unusedSimpArgs false
namespace Go.Proofs.YtopdccbcknlepaaDoor
open Go Go.Vcg

/-! ### Plain functions -/
structure Rw where
  (k a b c d e : Int)
def rawC (r : Rw) : List D := [.int .i64 r.k, .int .i64 r.a, .int .i64 r.b, .int .i64 r.c, .int .i64 r.d, .int .i64 r.e]
def rawD (r : Rw) : D := .agg (rawC r)
def rawOf : D → Rw
  | .agg [.int _ k, .int _ a, .int _ b, .int _ c, .int _ d, .int _ e] => ⟨k, a, b, c, d, e⟩
  | _ => ⟨0, 0, 0, 0, 0, 0⟩
theorem rawOf_rawD (r : Rw) : rawOf (rawD r) = r := rfl
def okRaw (r : Rw) : Prop := inR .i64 r.k ∧ inR .i64 r.a ∧ inR .i64 r.b ∧ inR .i64 r.c ∧ inR .i64 r.d ∧ inR .i64 r.e

def rwL (r : Rw) : List Int := [r.k, r.a, r.b, r.c, r.d, r.e]
theorem rw_of {ns : List Int} (h : ns.length = 6) (w : ∀ n ∈ ns, inR .i64 n) : ∃ r : Rw, ns = rwL r ∧ okRaw r := by
  match ns, h with
  | [k, a, b, c, d, e], _ => exact ⟨⟨k, a, b, c, d, e⟩, rfl, w k (by simp), w a (by simp), w b (by simp), w c (by simp), w d (by simp), w e (by simp)⟩
theorem rd_raw {X : Nat → Prop} {w : World} {c : Option Cx} (r : Rw) : Rd X w c (rawD r) (.agg ((rwL r).map (.int .i64)).toArray) := by
  simp only [rawD, Rd]
  exact ⟨_, rfl, rdL_ints (rwL r)⟩
def rawsD (l : List Rw) : D := .fz 6 (l.map rawC)
theorem rws_of : ∀ {rs : List (List Int)}, (∀ ns ∈ rs, ns.length = 6 ∧ ∀ n ∈ ns, inR .i64 n) → ∃ l : List Rw, rs = l.map rwL ∧ ∀ r ∈ l, okRaw r
  | [], _ => ⟨[], rfl, by simp⟩
  | ns :: rs, h => by
    obtain ⟨r, rfl, h1⟩ := rw_of (h ns (by simp)).1 (h ns (by simp)).2
    obtain ⟨l, rfl, h2⟩ := rws_of (rs := rs) fun x hx => h x (by simp [hx])
    exact ⟨r :: l, rfl, fun x hx => by
      rcases List.mem_cons.1 hx with rfl | hx
      · exact h1
      · exact h2 x hx⟩
theorem rd_raws {X : Nat → Prop} {w : World} {c : Option Cx} {l : List Rw} {v : Value} (h : Rd X w c (.fz 6 ((l.map rwL).map fun ns => ns.map (.int .i64))) v) : Rd X w c (rawsD l) v := by
  rw [List.map_map] at h; exact h
/-- A slice of raw numbers that may be. -/
def okRaws (l : List Rw) : Prop := (∀ r ∈ l, okRaw r) ∧ l.length ≤ 9223372036854775807

structure Ms where
  (kind frm to site n label key value version ask : Int) (yes : Bool) (code : Int)
  deriving DecidableEq
def msgC (m : Ms) : List D := [.int .i64 m.kind, .int .i64 m.frm, .int .i64 m.to, .int .i64 m.site, .int .i64 m.n, .int .i64 m.label, .int .i64 m.key, .int .i64 m.value, .int .i64 m.version, .int .i64 m.ask, .bool m.yes, .int .i64 m.code]
def msgD (m : Ms) : D := .agg (msgC m)
def msgL : List D → Ms
  | [.int _ a, .int _ b, .int _ c, .int _ d, .int _ e, .int _ f, .int _ g, .int _ h, .int _ i, .int _ j, .bool y, .int _ k] => ⟨a, b, c, d, e, f, g, h, i, j, y, k⟩
  | _ => ⟨0, 0, 0, 0, 0, 0, 0, 0, 0, 0, false, 0⟩
def msgOf : D → Ms
  | .agg cs => msgL cs
  | _ => msgL []
def isMsgL : List D → Bool
  | [.int .i64 _, .int .i64 _, .int .i64 _, .int .i64 _, .int .i64 _, .int .i64 _, .int .i64 _, .int .i64 _, .int .i64 _, .int .i64 _, .bool _, .int .i64 _] => true
  | _ => false
def isMsg : D → Bool
  | .agg cs => isMsgL cs
  | _ => false
theorem msgOf_msgD (m : Ms) : msgOf (msgD m) = m := rfl
theorem isMsgL_eq {cs : List D} (h : isMsgL cs = true) : cs = msgC (msgL cs) := by
  unfold isMsgL at h
  split at h
  · rfl
  · cases h
theorem isMsg_msgD {x : D} (h : isMsg x = true) : ∃ m, x = msgD m := by
  cases x with
  | agg cs => exact ⟨msgL cs, by rw [msgD, ← isMsgL_eq h]⟩
  | _ => simp [isMsg] at h

/-- What a message's kind has: label, key, value, version, ask, yes, code, sites. -/
def parts : Int → List Bool
  | 1 => [true, true, false, false, true, false, false, false]
  | 2 => [false, true, true, false, true, false, false, false]
  | 3 => [true, true, false, true, false, false, false, false]
  | 4 => [false, false, false, false, false, true, false, false]
  | 5 => [true, true, true, true, true, false, true, false]
  | 6 => [false, true, false, false, true, false, true, false]
  | 7 => [true, true, false, true, false, true, false, false]
  | _ => [false, false, false, false, false, false, false, false]
def bc (l : List Bool) : List D := l.map .bool
def msgT : List (List D) := [bc (parts 0), bc (parts 1), bc (parts 2), bc (parts 3), bc (parts 4), bc (parts 5), bc (parts 6), bc (parts 7), bc (parts 8), bc (parts 9)]

def okTxn (S site n : Int) : Bool := decide (0 ≤ site) && decide (site < S) && decide (1 ≤ n) && decide (n ≤ 1048576)
def okKey (k : Int) : Bool := decide (0 ≤ k) && decide (k < 8)
def okVal (v : Int) : Bool := decide (0 ≤ v) && decide (v ≤ 1073741824)
def okAsk (n : Int) : Bool := decide (0 ≤ n) && decide (n ≤ 1048576)
def okCode (e : Int) : Bool := e == 0 || e == 11 || e == 8

def okRange (S L : Int) (m : Ms) : Prop := 0 ≤ m.frm ∧ m.frm < S ∧ 0 ≤ m.to ∧ m.to < S ∧ okTxn S m.site m.n = true ∧ 0 ≤ m.label ∧ m.label < L ∧ okKey m.key = true ∧ okVal m.value = true ∧ 0 ≤ m.version ∧ m.version ≤ 1048576 ∧ okAsk m.ask = true ∧ okCode m.code = true
def pt (m : Ms) (i : Nat) : Bool := (parts m.kind).getD i false
def okForm (m : Ms) : Prop := (pt m 0 = false → m.label = 0) ∧ (pt m 1 = false → m.key = 0) ∧ (pt m 2 = false → m.value = 0) ∧ (pt m 3 = false → m.version = 0) ∧ (pt m 4 = false → m.ask = 0) ∧ (pt m 5 = false → m.yes = false) ∧ (pt m 6 = false → m.code = 0) ∧ (m.code = 0 ∨ m.value + m.version = 0)
open Classical in
noncomputable def chkM (s : Int) (ls : List (Int × Int)) (p : Int) (m : Ms) : Int :=
  if check s ls p ≠ 0 then check s ls p else if m.kind < 1 ∨ 9 < m.kind then 3 else if ¬ okRange s ls.length m then 2 else if ¬ okForm m then 4 else 0

def sp_wtxn : Sp := { pre := fun ds => ∃ x s n, ds = [x, .agg [.int .i64 s, .int .i64 n]] ∧ isCfg x = true, F := fun | [x, .agg [.int _ s, .int _ n]] => .bool (okTxn (cfgOf x).1 s n) | _ => .any }
def sp_key : Sp := { pre := fun ds => ∃ k, ds = [.int .i64 k], F := fun | [.int _ k] => .bool (okKey k) | _ => .any }
def sp_value : Sp := { pre := fun ds => ∃ k, ds = [.int .i64 k], F := fun | [.int _ k] => .bool (okVal k) | _ => .any }
def sp_ask : Sp := { pre := fun ds => ∃ k, ds = [.int .i64 k], F := fun | [.int _ k] => .bool (okAsk k) | _ => .any }
def sp_code : Sp := { pre := fun ds => ∃ k, ds = [.int .i64 k], F := fun | [.int _ k] => .bool (okCode k) | _ => .any }
noncomputable def sp_CheckMessage : Sp := { pre := fun ds => ∃ x y, ds = [x, y] ∧ isCfg x = true ∧ isMsg y = true, F := fun | [x, y] => .int .i64 (chkM (cfgOf x).1 (cfgOf x).2.1 (cfgOf x).2.2 (msgOf y)) | _ => .any }

/-- A message of raw numbers. -/
def codeAt (i : Int) : Int := if i = 2 then 11 else if i = 3 then 8 else 0
def mkMsg (S L : Int) (r : Rw) : Ms :=
  let kind := 1 + pk r.k 9
  let code := codeAt (pk r.e 4)
  let label := pk r.d L
  let key := pk (r.d.tdiv 5) 8
  let m : Ms := ⟨kind, pk r.a S, pk (r.a.tdiv 7) S, pk r.b S, 1 + pk r.c 6, 0, 0, 0, 0, 0, false, 0⟩
  if kind = 1 then { m with label := label, key := key, ask := pk r.e 9 }
  else if kind = 2 then { m with key := key, value := pk r.e 1073741824, ask := pk (r.e.tdiv 3) 9 }
  else if kind = 3 then { m with label := label, key := key, version := pk r.e 4 }
  else if kind = 4 then { m with yes := pk r.e 2 == 1 }
  else if kind = 5 then (if code = 0 then { m with label := label, key := key, ask := pk (r.e.tdiv 4) 9, code := code, value := pk r.e 99, version := pk r.e 5 } else { m with label := label, key := key, ask := pk (r.e.tdiv 4) 9, code := code })
  else if kind = 6 then { m with key := key, ask := pk (r.e.tdiv 4) 9, code := code }
  else if kind = 7 then { m with label := label, key := key, version := pk r.e 4, yes := pk r.e 2 == 1 }
  else m
def okSL (x : D) : Prop := isCfg x = true ∧ 1 ≤ (cfgOf x).1 ∧ (cfgOf x).1 ≤ 4 ∧ 1 ≤ (cfgOf x).2.1.length ∧ (cfgOf x).2.1.length ≤ 6
def sp_Txn : Sp := { pre := fun ds => ∃ x a b, ds = [x, .int .i64 a, .int .i64 b] ∧ okSL x ∧ inR .i64 a ∧ inR .i64 b, F := fun | [x, .int _ a, .int _ b] => .agg [.int .i64 (pk a (cfgOf x).1), .int .i64 (1 + pk b 6)] | _ => .any }
def sp_Message : Sp := { pre := fun ds => ∃ x r, ds = [x, rawD r] ∧ okSL x ∧ okRaw r, F := fun | [x, y] => msgD (mkMsg (cfgOf x).1 (cfgOf x).2.1.length (rawOf y)) | _ => .any }

theorem elem_codes {i : Int} (h0 : 0 ≤ i) (h1 : i < 4) : elem [[.int .i64 0], [.int .i64 0], [.int .i64 11], [.int .i64 8]] i.toNat = [.int .i64 (codeAt i)] := by
  have : i = 0 ∨ i = 1 ∨ i = 2 ∨ i = 3 := by omega
  rcases this with rfl | rfl | rfl | rfl <;> rfl
theorem elem_parts {i : Int} (h0 : 1 ≤ i) (h1 : i ≤ 9) : elem msgT i.toNat = bc (parts i) := by
  have : i = 1 ∨ i = 2 ∨ i = 3 ∨ i = 4 ∨ i = 5 ∨ i = 6 ∨ i = 7 ∨ i = 8 ∨ i = 9 := by omega
  rcases this with rfl | rfl | rfl | rfl | rfl | rfl | rfl | rfl | rfl <;> rfl
theorem inR_tdiv' {n m : Int} (h : inR .i64 n) (hm : 0 < m) : inR .i64 (n.tdiv m) := inR_tdiv h hm

section
variable {T : Tb}
theorem v_wtxn : Verified T ir_wire_txn sp_wtxn := by
  refine Verified.mk ?_
  rintro ds ⟨x, s, n, rfl, hx⟩
  obtain ⟨S, ls, p, rfl⟩ := isCfg_cfgD hx
  simp only [sp_wtxn, cfgOf_cfgD]
  simp [k_seq, k_block, k_skip, k_reg, k_alt, k_cond, k_exit, k_ret, kf_nil, kf_seq_n, kf_seq_e, kf_seq_r, kf_blk_n, kf_blk_e, kf_blk_r, kf_lp_n, kf_lp_e, kf_lp_r, kf_cut_n, kf_cut_e, kf_cut_r, mkTm, VCops, VCalt, istep, act, gd, applyE, wrapD, Opd.ev, get_mk, set_mk, set_mk0, tget16, tset16, tget_0, tset_0, tget_1, tset_1, tget_2, tset_2, tget_3, tset_3, tget_4, tset_4, tget_5, tset_5, tget_6, tset_6, tget_7, tset_7, tget_8, tset_8, tget_9, tset_9, tget_10, tset_10, tget_11, tset_11, tget_12, tset_12, tget_13, tset_13, tget_14, tset_14, tget_15, tset_15, D.un, D.gu, gus, IOp.opds, binD, fnPost, getRes, IRes.get, oneRes, D.out, outL, D.clos, closL, D.norow, norowL, D.lv, lvL, D.scal, scalL, D.cells, D.cell, D.cell', St.lk, obPut, obDel, List.lookup, cut, pickD, splice, fillParts, fillRows, elem_cons, newsOf, D.pl, D.forget, forgetL, Ob.forget, forgetO, eqCells, sg, leD, leDL, leOb, apartK, St.le, D.keys, keysL, D.rows, rowsL, obKeys, addKeys, reach, pos, D.ren, renL, Ob.ren, inM, outM, inObs, outObs, goneK, apartN, okNames_eq, okNms, obNms, namesOK_nil, namesOK_cons, freeOK_nil, freeOK_cons, D.frz, frzL, Ob.frz, frzO, St.frz, forgetLs, dropObs, putObs, hcall, freeOf, keeps, baseN, shD, isShift, shMax, k_bad, VCopsG, frz_nil, actx, actc, cnum, vwCut, St.frzT, St.opnT, St.clsT, D.opn, opnL, Ob.opn, opnO, VCou, VCcx, St.oneS, D.objI, D.objK, scrL, D.scr, St.opnS, St.clsS, D.cellS, D.fzs, fzsL, k_mrk, IOper.gh, ir_wire_txn, cfgD, okTxn]
  try grind
theorem v_key : Verified T ir_wire_key sp_key := by
  refine Verified.mk ?_
  rintro ds ⟨k, rfl⟩
  simp [k_seq, k_block, k_skip, k_reg, k_alt, k_cond, k_exit, k_ret, kf_nil, kf_seq_n, kf_seq_e, kf_seq_r, kf_blk_n, kf_blk_e, kf_blk_r, kf_lp_n, kf_lp_e, kf_lp_r, kf_cut_n, kf_cut_e, kf_cut_r, mkTm, VCops, VCalt, istep, act, gd, applyE, wrapD, Opd.ev, get_mk, set_mk, set_mk0, tget16, tset16, tget_0, tset_0, tget_1, tset_1, tget_2, tset_2, tget_3, tset_3, tget_4, tset_4, tget_5, tset_5, tget_6, tset_6, tget_7, tset_7, tget_8, tset_8, tget_9, tset_9, tget_10, tset_10, tget_11, tset_11, tget_12, tset_12, tget_13, tset_13, tget_14, tset_14, tget_15, tset_15, D.un, D.gu, gus, IOp.opds, binD, fnPost, getRes, IRes.get, oneRes, D.out, outL, D.clos, closL, D.norow, norowL, D.lv, lvL, D.scal, scalL, D.cells, D.cell, D.cell', St.lk, obPut, obDel, List.lookup, cut, pickD, splice, fillParts, fillRows, elem_cons, newsOf, D.pl, D.forget, forgetL, Ob.forget, forgetO, eqCells, sg, leD, leDL, leOb, apartK, St.le, D.keys, keysL, D.rows, rowsL, obKeys, addKeys, reach, pos, D.ren, renL, Ob.ren, inM, outM, inObs, outObs, goneK, apartN, okNames_eq, okNms, obNms, namesOK_nil, namesOK_cons, freeOK_nil, freeOK_cons, D.frz, frzL, Ob.frz, frzO, St.frz, forgetLs, dropObs, putObs, hcall, freeOf, keeps, baseN, shD, isShift, shMax, k_bad, VCopsG, frz_nil, actx, actc, cnum, vwCut, St.frzT, St.opnT, St.clsT, D.opn, opnL, Ob.opn, opnO, VCou, VCcx, St.oneS, D.objI, D.objK, scrL, D.scr, St.opnS, St.clsS, D.cellS, D.fzs, fzsL, k_mrk, IOper.gh, ir_wire_key, sp_key, okKey]
  try grind
theorem v_value : Verified T ir_wire_value sp_value := by
  refine Verified.mk ?_
  rintro ds ⟨k, rfl⟩
  simp [k_seq, k_block, k_skip, k_reg, k_alt, k_cond, k_exit, k_ret, kf_nil, kf_seq_n, kf_seq_e, kf_seq_r, kf_blk_n, kf_blk_e, kf_blk_r, kf_lp_n, kf_lp_e, kf_lp_r, kf_cut_n, kf_cut_e, kf_cut_r, mkTm, VCops, VCalt, istep, act, gd, applyE, wrapD, Opd.ev, get_mk, set_mk, set_mk0, tget16, tset16, tget_0, tset_0, tget_1, tset_1, tget_2, tset_2, tget_3, tset_3, tget_4, tset_4, tget_5, tset_5, tget_6, tset_6, tget_7, tset_7, tget_8, tset_8, tget_9, tset_9, tget_10, tset_10, tget_11, tset_11, tget_12, tset_12, tget_13, tset_13, tget_14, tset_14, tget_15, tset_15, D.un, D.gu, gus, IOp.opds, binD, fnPost, getRes, IRes.get, oneRes, D.out, outL, D.clos, closL, D.norow, norowL, D.lv, lvL, D.scal, scalL, D.cells, D.cell, D.cell', St.lk, obPut, obDel, List.lookup, cut, pickD, splice, fillParts, fillRows, elem_cons, newsOf, D.pl, D.forget, forgetL, Ob.forget, forgetO, eqCells, sg, leD, leDL, leOb, apartK, St.le, D.keys, keysL, D.rows, rowsL, obKeys, addKeys, reach, pos, D.ren, renL, Ob.ren, inM, outM, inObs, outObs, goneK, apartN, okNames_eq, okNms, obNms, namesOK_nil, namesOK_cons, freeOK_nil, freeOK_cons, D.frz, frzL, Ob.frz, frzO, St.frz, forgetLs, dropObs, putObs, hcall, freeOf, keeps, baseN, shD, isShift, shMax, k_bad, VCopsG, frz_nil, actx, actc, cnum, vwCut, St.frzT, St.opnT, St.clsT, D.opn, opnL, Ob.opn, opnO, VCou, VCcx, St.oneS, D.objI, D.objK, scrL, D.scr, St.opnS, St.clsS, D.cellS, D.fzs, fzsL, k_mrk, IOper.gh, ir_wire_value, sp_value, okVal]
  try grind
theorem v_ask : Verified T ir_wire_ask sp_ask := by
  refine Verified.mk ?_
  rintro ds ⟨k, rfl⟩
  simp [k_seq, k_block, k_skip, k_reg, k_alt, k_cond, k_exit, k_ret, kf_nil, kf_seq_n, kf_seq_e, kf_seq_r, kf_blk_n, kf_blk_e, kf_blk_r, kf_lp_n, kf_lp_e, kf_lp_r, kf_cut_n, kf_cut_e, kf_cut_r, mkTm, VCops, VCalt, istep, act, gd, applyE, wrapD, Opd.ev, get_mk, set_mk, set_mk0, tget16, tset16, tget_0, tset_0, tget_1, tset_1, tget_2, tset_2, tget_3, tset_3, tget_4, tset_4, tget_5, tset_5, tget_6, tset_6, tget_7, tset_7, tget_8, tset_8, tget_9, tset_9, tget_10, tset_10, tget_11, tset_11, tget_12, tset_12, tget_13, tset_13, tget_14, tset_14, tget_15, tset_15, D.un, D.gu, gus, IOp.opds, binD, fnPost, getRes, IRes.get, oneRes, D.out, outL, D.clos, closL, D.norow, norowL, D.lv, lvL, D.scal, scalL, D.cells, D.cell, D.cell', St.lk, obPut, obDel, List.lookup, cut, pickD, splice, fillParts, fillRows, elem_cons, newsOf, D.pl, D.forget, forgetL, Ob.forget, forgetO, eqCells, sg, leD, leDL, leOb, apartK, St.le, D.keys, keysL, D.rows, rowsL, obKeys, addKeys, reach, pos, D.ren, renL, Ob.ren, inM, outM, inObs, outObs, goneK, apartN, okNames_eq, okNms, obNms, namesOK_nil, namesOK_cons, freeOK_nil, freeOK_cons, D.frz, frzL, Ob.frz, frzO, St.frz, forgetLs, dropObs, putObs, hcall, freeOf, keeps, baseN, shD, isShift, shMax, k_bad, VCopsG, frz_nil, actx, actc, cnum, vwCut, St.frzT, St.opnT, St.clsT, D.opn, opnL, Ob.opn, opnO, VCou, VCcx, St.oneS, D.objI, D.objK, scrL, D.scr, St.opnS, St.clsS, D.cellS, D.fzs, fzsL, k_mrk, IOper.gh, ir_wire_ask, sp_ask, okAsk]
  try grind
theorem v_code : Verified T ir_wire_code sp_code := by
  refine Verified.mk ?_
  rintro ds ⟨k, rfl⟩
  simp [k_seq, k_block, k_skip, k_reg, k_alt, k_cond, k_exit, k_ret, kf_nil, kf_seq_n, kf_seq_e, kf_seq_r, kf_blk_n, kf_blk_e, kf_blk_r, kf_lp_n, kf_lp_e, kf_lp_r, kf_cut_n, kf_cut_e, kf_cut_r, mkTm, VCops, VCalt, istep, act, gd, applyE, wrapD, Opd.ev, get_mk, set_mk, set_mk0, tget16, tset16, tget_0, tset_0, tget_1, tset_1, tget_2, tset_2, tget_3, tset_3, tget_4, tset_4, tget_5, tset_5, tget_6, tset_6, tget_7, tset_7, tget_8, tset_8, tget_9, tset_9, tget_10, tset_10, tget_11, tset_11, tget_12, tset_12, tget_13, tset_13, tget_14, tset_14, tget_15, tset_15, D.un, D.gu, gus, IOp.opds, binD, fnPost, getRes, IRes.get, oneRes, D.out, outL, D.clos, closL, D.norow, norowL, D.lv, lvL, D.scal, scalL, D.cells, D.cell, D.cell', St.lk, obPut, obDel, List.lookup, cut, pickD, splice, fillParts, fillRows, elem_cons, newsOf, D.pl, D.forget, forgetL, Ob.forget, forgetO, eqCells, sg, leD, leDL, leOb, apartK, St.le, D.keys, keysL, D.rows, rowsL, obKeys, addKeys, reach, pos, D.ren, renL, Ob.ren, inM, outM, inObs, outObs, goneK, apartN, okNames_eq, okNms, obNms, namesOK_nil, namesOK_cons, freeOK_nil, freeOK_cons, D.frz, frzL, Ob.frz, frzO, St.frz, forgetLs, dropObs, putObs, hcall, freeOf, keeps, baseN, shD, isShift, shMax, k_bad, VCopsG, frz_nil, actx, actc, cnum, vwCut, St.frzT, St.opnT, St.clsT, D.opn, opnL, Ob.opn, opnO, VCou, VCcx, St.oneS, D.objI, D.objK, scrL, D.scr, St.opnS, St.clsS, D.cellS, D.fzs, fzsL, k_mrk, IOper.gh, ir_wire_code, sp_code, okCode]
  try grind

theorem v_Txn (h1 : T.sp n_reredoskeep_picked = some sp_picked) : Verified T ir_reredoskeep_Txn sp_Txn := by
  refine Verified.mk ?_
  rintro ds ⟨x, a, b, rfl, ⟨hx, q1, q2, q3, q4⟩, ha, hb⟩
  obtain ⟨S, ls, p, rfl⟩ := isCfg_cfgD hx
  simp only [sp_Txn, cfgOf_cfgD] at q1 q2 q3 q4 ⊢
  have b1 := pk_bounds b 6 (by decide)
  simp [k_seq, k_block, k_skip, k_reg, k_alt, k_cond, k_exit, k_ret, kf_nil, kf_seq_n, kf_seq_e, kf_seq_r, kf_blk_n, kf_blk_e, kf_blk_r, kf_lp_n, kf_lp_e, kf_lp_r, kf_cut_n, kf_cut_e, kf_cut_r, mkTm, VCops, VCalt, istep, act, gd, applyE, wrapD, Opd.ev, get_mk, set_mk, set_mk0, tget16, tset16, tget_0, tset_0, tget_1, tset_1, tget_2, tset_2, tget_3, tset_3, tget_4, tset_4, tget_5, tset_5, tget_6, tset_6, tget_7, tset_7, tget_8, tset_8, tget_9, tset_9, tget_10, tset_10, tget_11, tset_11, tget_12, tset_12, tget_13, tset_13, tget_14, tset_14, tget_15, tset_15, D.un, D.gu, gus, IOp.opds, binD, fnPost, getRes, IRes.get, oneRes, D.out, outL, D.clos, closL, D.norow, norowL, D.lv, lvL, D.scal, scalL, D.cells, D.cell, D.cell', St.lk, obPut, obDel, List.lookup, cut, pickD, splice, fillParts, fillRows, elem_cons, newsOf, D.pl, D.forget, forgetL, Ob.forget, forgetO, eqCells, sg, leD, leDL, leOb, apartK, St.le, D.keys, keysL, D.rows, rowsL, obKeys, addKeys, reach, pos, D.ren, renL, Ob.ren, inM, outM, inObs, outObs, goneK, apartN, okNames_eq, okNms, obNms, namesOK_nil, namesOK_cons, freeOK_nil, freeOK_cons, D.frz, frzL, Ob.frz, frzO, St.frz, forgetLs, dropObs, putObs, hcall, freeOf, keeps, baseN, shD, isShift, shMax, k_bad, VCopsG, frz_nil, actx, actc, cnum, vwCut, St.frzT, St.opnT, St.clsT, D.opn, opnL, Ob.opn, opnO, VCou, VCcx, St.oneS, D.objI, D.objK, scrL, D.scr, St.opnS, St.clsS, D.cellS, D.fzs, fzsL, k_mrk, IOper.gh, ir_reredoskeep_Txn, h1, sp_picked, cfgD, and_assoc, ha, hb]
  simp only [inR]; omega
end
end Go.Proofs.YtopdccbcknlepaaDoor
