/-
  label.Check and messages: what makes them and what checks them. Conditions: those of its specification's 'pre', and that the functions that are called are what theirs say.
-/
import Derived.Test.YtchbnpjegacobaaDoorSt0
set_option linter.unusedVariables false
set_option linter.unusedSimpArgs false
namespace Go.Proofs.YtchbnpjegacobaaDoor
open Go Go.Vcg

def lb (p : Int × Int) : D := .agg [.int .i64 p.1, .int .i64 p.2]
def lbOf : D → Int × Int
  | .agg [.int _ a, .int _ b] => (a, b)
  | _ => (0, 0)
def lbc (p : Int × Int) : List D := [.int .i64 p.1, .int .i64 p.2]
def cfgD (s : Int) (ls : List (Int × Int)) (p : Int) : D := .agg [.int .i64 s, .fz 2 (ls.map lbc), .int .i64 p]

def one (l : Int × Int) : Bool := decide (0 ≤ l.1) && decide (l.1 ≤ 9) && decide (0 ≤ l.2) && decide (l.2 ≤ 15)
/-- The labels behind those that were seen. -/
def chkL : List (Int × Int) → List (Int × Int) → Int
  | _, [] => 0
  | pre, l :: r => if one l = false then 2 else if l ∈ pre then 7 else chkL (pre ++ [l]) r
def check (s : Int) (ls : List (Int × Int)) (p : Int) : Int :=
  if s < 1 ∨ 4 < s then 2 else if ls.length < 1 ∨ 6 < ls.length then 1 else
  if chkL [] ls = 0 then (if p < 1 ∨ 1048576 < p then 2 else 0) else chkL [] ls

def sp_one : Sp := { pre := fun ds => ∃ a, ds = [lb a], F := fun | [x] => .bool (one (lbOf x)) | _ => .any }
def lbL (e : List D) : Int × Int := lbOf (.agg e)
theorem lbL_lbc : lbL ∘ lbc = id := rfl
def cfgOf : D → Int × List (Int × Int) × Int
  | .agg [.int _ s, .fz _ es, .int _ p] => (s, es.map lbL, p)
  | _ => (0, [], 0)
def isLb : List D → Bool
  | [.int .i64 _, .int .i64 _] => true
  | _ => false
theorem isLb_lbc : isLb ∘ lbc = fun _ => true := rfl
def isCfg : D → Bool
  | .agg [.int .i64 s, .fz 2 es, .int .i64 p] => es.all isLb
  | _ => false
theorem isLb_map : ∀ {es : List (List D)}, es.all isLb = true → es = (es.map lbL).map lbc
  | [], _ => rfl
  | e :: es, h => by
    simp only [List.all_cons, Bool.and_eq_true] at h
    simp only [List.map_cons]
    rw [← isLb_map h.2]
    have he := h.1
    unfold isLb at he
    split at he
    · rfl
    · cases he
theorem isCfg_cfgD {x : D} (h : isCfg x = true) : ∃ s ls p, x = cfgD s ls p := by
  unfold isCfg at h
  split at h
  · rename_i s es p
    exact ⟨s, es.map lbL, p, by rw [cfgD, ← isLb_map h]⟩
  · cases h
def sp_Check : Sp := { pre := fun ds => ∃ x, ds = [x] ∧ isCfg x = true, F := fun | [x] => .int .i64 (check (cfgOf x).1 (cfgOf x).2.1 (cfgOf x).2.2) | _ => .any }

theorem cfgOf_cfgD (s : Int) (ls : List (Int × Int)) (p : Int) : cfgOf (cfgD s ls p) = (s, ls, p) := by
  simp [cfgOf, cfgD, lbL_lbc]

theorem mem_snoc_dec (A : List (Int × Int)) (x l : Int × Int) : (decide (l ∈ A) || (x.1 == l.1 && x.2 == l.2)) = decide (l ∈ A ++ [x]) := by
  have e : (x.1 == l.1 && x.2 == l.2) = decide (l = x) := by
    rw [Bool.eq_iff_iff]
    simp only [Bool.and_eq_true, beq_iff_eq, decide_eq_true_eq, Prod.ext_iff]
    exact ⟨fun h => ⟨h.1.symm, h.2.symm⟩, fun h => ⟨h.1.symm, h.2.symm⟩⟩
  rw [e]
  by_cases q : l ∈ A <;> simp [q]

section
variable {T : Tb}
attribute [local simp] k_seq k_block k_skip k_reg k_alt k_cond k_exit k_ret kf_nil kf_seq_n kf_seq_e kf_seq_r kf_blk_n kf_blk_e kf_blk_r kf_lp_n kf_lp_e kf_lp_r kf_cut_n kf_cut_e kf_cut_r mkTm VCops VCalt istep act gd applyE wrapD Opd.ev get_mk set_mk set_mk0 tget16 tset16 tget_0 tset_0 tget_1 tset_1 tget_2 tset_2 tget_3 tset_3 tget_4 tset_4 tget_5 tset_5 tget_6 tset_6 tget_7 tset_7 tget_8 tset_8 tget_9 tset_9 tget_10 tset_10 tget_11 tset_11 tget_12 tset_12 tget_13 tset_13 tget_14 tset_14 tget_15 tset_15 D.un D.gu gus IOp.opds binD fnPost getRes IRes.get oneRes D.out outL D.clos closL D.norow norowL D.lv lvL D.scal scalL D.cells D.cell D.cell' St.lk obPut obDel List.lookup cut pickD splice fillParts fillRows elem_cons newsOf D.pl D.forget forgetL Ob.forget forgetO eqCells sg leD leDL leOb apartK St.le D.keys keysL D.rows rowsL obKeys addKeys reach pos D.ren renL Ob.ren inM outM inObs outObs goneK apartN okNames_eq okNms obNms namesOK_nil namesOK_cons freeOK_nil freeOK_cons D.frz frzL Ob.frz frzO St.frz forgetLs dropObs putObs hcall freeOf keeps baseN shD isShift shMax k_bad VCopsG frz_nil actx actc cnum vwCut St.frzT St.opnT St.clsT D.opn opnL Ob.opn opnO VCou VCcx St.oneS D.objI D.objK scrL D.scr St.opnS St.clsS D.cellS D.fzs fzsL k_mrk k_mrq IOper.gh
theorem v_one : Verified T ir_label_one sp_one := by
  refine Verified.mk ?_
  rintro ds ⟨⟨a, b⟩, rfl⟩
  simp [ir_label_one, sp_one, lb, lbOf, one]
  rfl

theorem v_Check (h1 : T.sp n_label_one = some sp_one) : Verified T ir_label_Check sp_Check := by
  refine Verified.mk ?_
  rintro ds ⟨x, rfl, hx⟩
  obtain ⟨s, ls, p, rfl⟩ := isCfg_cfgD hx
  simp only [sp_Check, cfgOf_cfgD]
  simp [ir_label_Check, h1, cfgD]
  refine ⟨fun h => by simp [check, h], fun h1' h2' => ⟨fun h => ?_, fun h3 h4 => ?_⟩⟩
  · rw [check, if_neg (by omega), if_pos (by omega)]
  refine k_loop (ι := {i : Nat // i ≤ ls.length ∧ chkL (ls.take i) (ls.drop i) = chkL [] ls}) (fun x => ⟨mkTm 58 0 [(1, .own 1 0), (26, .fz 2 (ls.map lbc)), (27, .int .i64 ls.length), (28, .int .i64 x.1)], [(1, .box [.int .i64 s, .fz 2 (ls.map lbc), .int .i64 p])]⟩)
    (fun x => ls.length - x.1) [] ⟨0, by simp⟩ (by simp) ?_
  rintro ⟨i, hi, hinv⟩ P hP
  rcases Nat.lt_or_ge i ls.length with h | h
  · have hd : ls.drop i = ls[i] :: ls.drop (i + 1) := List.drop_eq_getElem_cons h
    rw [hd, chkL] at hinv
    have hch : one ls[i] = false → check s ls p = 2 := fun ho => by
      rw [if_pos ho] at hinv
      rw [check, if_neg (by omega), if_neg (by omega), if_neg (by omega), hinv]
    simp [ir_label_Check_b2, h, h1, elem_map, lbc, sp_one, lb, lbOf]
    refine ⟨fun ho => (hch ho).symm, fun ho => ⟨hi, ?_⟩⟩
    rw [if_neg (by simp [ho])] at hinv
    have hch7 : ls[i] ∈ ls.take i → check s ls p = 7 := fun hm => by
      rw [if_pos hm] at hinv
      rw [check, if_neg (by omega), if_neg (by omega), if_neg (by omega), hinv]
    have htk : (ls.take (i + 1)) = ls.take i ++ [ls[i]] := (List.take_append_getElem h).symm
    rw [Nat.min_eq_left hi, ← List.map_take]
    rw [← htk] at hinv
    have hpl : (ls.take i).length = i := by simp; omega
    generalize ls.take i = pre at hch7 hpl hinv htk ⊢
    generalize ls[i] = l at hch7 htk ho hinv ⊢
    refine k_loop (ι := {j : Nat // j ≤ i ∧ l ∉ pre.take j}) (fun x => ⟨mkTm 58 0 [(1, .own 1 0), (4, .own 4 0), (26, .fz 2 (ls.map lbc)), (27, .int .i64 ls.length), (28, .int .i64 i), (39, .fz 2 (pre.map lbc)), (40, .int .i64 i), (41, .int .i64 x.1)], [(1, .box [.int .i64 s, .fz 2 (ls.map lbc), .int .i64 p]), (4, .box (lbc l))]⟩)
      (fun x => i - x.1) [] ⟨0, by simp⟩ (by simp [lbc]) ?_
    rintro ⟨j, hj, hnm⟩ P' hP'
    rcases Nat.lt_or_ge j i with g | g
    · have hjl : j < pre.length := by omega
      have hd' : pre.take (j + 1) = pre.take j ++ [pre[j]] := (List.take_append_getElem hjl).symm
      simp [ir_label_Check_b0, g, hjl, elem_map, lbc, lbOf]
      have key : ∀ q : pre[j] = l, l ∈ pre := fun q => q ▸ List.getElem_mem hjl
      refine ⟨fun e1 e2 => (hch7 (key (Prod.ext e1 e2))).symm, fun hne => ⟨by simp only [inR]; omega, hP' _ [] ⟨j + 1, by omega, ?_⟩ (by simp [lbc]) (by simp; omega)⟩⟩
      rw [hd', List.mem_append]
      rintro (q | q)
      · exact hnm q
      · simp only [List.mem_singleton] at q
        exact hne (by rw [← q]) (by rw [← q])
    · simp [ir_label_Check_b0, ir_label_Check_r1, Nat.not_lt.2 g]
      refine ⟨by simp only [inR]; omega, hP _ [] ⟨i + 1, by omega, ?_⟩ (by simp) (by simp; omega)⟩
      rw [List.take_of_length_le (by omega)] at hnm
      rw [if_neg hnm] at hinv
      exact hinv
  · simp [ir_label_Check_b2, ir_label_Check_r3, Nat.not_lt.2 h]
    have hz : chkL [] ls = 0 := by rw [← hinv, List.drop_eq_nil_of_le h, chkL]
    have hc : check s ls p = if p < 1 ∨ 1048576 < p then 2 else 0 := by
      rw [check, if_neg (by omega), if_neg (by omega), if_pos hz]
    rw [hc]
    exact ⟨fun q => by rw [if_pos q], fun q1 q2 => by rw [if_neg (by omega)]⟩
end
structure Ms where
  (kind frm to site n label key value version ask : Int) (yes : Bool) (code : Int)
  deriving DecidableEq
def msgC (m : Ms) : List D := [.int .i64 m.kind, .int .i64 m.frm, .int .i64 m.to, .int .i64 m.site, .int .i64 m.n, .int .i64 m.label, .int .i64 m.key, .int .i64 m.value, .int .i64 m.version, .int .i64 m.ask, .bool m.yes, .int .i64 m.code]
def msgD (m : Ms) : D := .agg (msgC m)
def msgL : List D → Ms
  | [.int _ a, .int _ b, .int _ c, .int _ d, .int _ e, .int _ f, .int _ g, .int _ h, .int _ i, .int _ j, .bool y, .int _ k] => ⟨a, b, c, d, e, f, g, h, i, j, y, k⟩
  | _ => ⟨0, 0, 0, 0, 0, 0, 0, 0, 0, 0, false, 0⟩
def msgOf : D → Ms
  | .agg cs => msgL cs
  | _ => msgL []
def isMsgL : List D → Bool
  | [.int .i64 _, .int .i64 _, .int .i64 _, .int .i64 _, .int .i64 _, .int .i64 _, .int .i64 _, .int .i64 _, .int .i64 _, .int .i64 _, .bool _, .int .i64 _] => true
  | _ => false
def isMsg : D → Bool
  | .agg cs => isMsgL cs
  | _ => false
theorem msgOf_msgD (m : Ms) : msgOf (msgD m) = m := rfl
theorem isMsgL_eq {cs : List D} (h : isMsgL cs = true) : cs = msgC (msgL cs) := by
  unfold isMsgL at h
  split at h
  · rfl
  · cases h
theorem isMsg_msgD {x : D} (h : isMsg x = true) : ∃ m, x = msgD m := by
  cases x with
  | agg cs => exact ⟨msgL cs, by rw [msgD, ← isMsgL_eq h]⟩
  | _ => simp [isMsg] at h

/-- What a message's kind has: label, key, value, version, ask, yes, code, sites. -/
def parts : Int → List Bool
  | 1 => [true, true, false, false, true, false, false, false]
  | 2 => [false, true, true, false, true, false, false, false]
  | 3 => [true, true, false, true, false, false, false, false]
  | 4 => [false, false, false, false, false, true, false, false]
  | 5 => [true, true, true, true, true, false, true, false]
  | 6 => [false, true, false, false, true, false, true, false]
  | 7 => [true, true, false, true, false, true, false, false]
  | _ => [false, false, false, false, false, false, false, false]
def bc (l : List Bool) : List D := l.map .bool
def msgT : List (List D) := [bc (parts 0), bc (parts 1), bc (parts 2), bc (parts 3), bc (parts 4), bc (parts 5), bc (parts 6), bc (parts 7), bc (parts 8), bc (parts 9)]

def okTxn (S site n : Int) : Bool := decide (0 ≤ site) && decide (site < S) && decide (1 ≤ n) && decide (n ≤ 1048576)
def okKey (k : Int) : Bool := decide (0 ≤ k) && decide (k < 8)
def okVal (v : Int) : Bool := decide (0 ≤ v) && decide (v ≤ 1073741824)
def okAsk (n : Int) : Bool := decide (0 ≤ n) && decide (n ≤ 1048576)
def okCode (e : Int) : Bool := e == 0 || e == 11 || e == 8

def okRange (S L : Int) (m : Ms) : Prop := 0 ≤ m.frm ∧ m.frm < S ∧ 0 ≤ m.to ∧ m.to < S ∧ okTxn S m.site m.n = true ∧ 0 ≤ m.label ∧ m.label < L ∧ okKey m.key = true ∧ okVal m.value = true ∧ 0 ≤ m.version ∧ m.version ≤ 1048576 ∧ okAsk m.ask = true ∧ okCode m.code = true
def pt (m : Ms) (i : Nat) : Bool := (parts m.kind).getD i false
def okForm (m : Ms) : Prop := (pt m 0 = false → m.label = 0) ∧ (pt m 1 = false → m.key = 0) ∧ (pt m 2 = false → m.value = 0) ∧ (pt m 3 = false → m.version = 0) ∧ (pt m 4 = false → m.ask = 0) ∧ (pt m 5 = false → m.yes = false) ∧ (pt m 6 = false → m.code = 0) ∧ (m.code = 0 ∨ m.value + m.version = 0)
open Classical in
noncomputable def chkM (s : Int) (ls : List (Int × Int)) (p : Int) (m : Ms) : Int :=
  if check s ls p ≠ 0 then check s ls p else if m.kind < 1 ∨ 9 < m.kind then 3 else if ¬ okRange s ls.length m then 2 else if ¬ okForm m then 4 else 0

def sp_wtxn : Sp := { pre := fun ds => ∃ x s n, ds = [x, .agg [.int .i64 s, .int .i64 n]] ∧ isCfg x = true, F := fun | [x, .agg [.int _ s, .int _ n]] => .bool (okTxn (cfgOf x).1 s n) | _ => .any }
def sp_key : Sp := { pre := fun ds => ∃ k, ds = [.int .i64 k], F := fun | [.int _ k] => .bool (okKey k) | _ => .any }
def sp_value : Sp := { pre := fun ds => ∃ k, ds = [.int .i64 k], F := fun | [.int _ k] => .bool (okVal k) | _ => .any }
def sp_ask : Sp := { pre := fun ds => ∃ k, ds = [.int .i64 k], F := fun | [.int _ k] => .bool (okAsk k) | _ => .any }
def sp_code : Sp := { pre := fun ds => ∃ k, ds = [.int .i64 k], F := fun | [.int _ k] => .bool (okCode k) | _ => .any }
noncomputable def sp_CheckMessage : Sp := { pre := fun ds => ∃ x y, ds = [x, y] ∧ isCfg x = true ∧ isMsg y = true, F := fun | [x, y] => .int .i64 (chkM (cfgOf x).1 (cfgOf x).2.1 (cfgOf x).2.2 (msgOf y)) | _ => .any }

/-- A message of raw numbers. -/
def codeAt (i : Int) : Int := if i = 2 then 11 else if i = 3 then 8 else 0
def mkMsg (S L : Int) (r : Rw) : Ms :=
  let kind := 1 + pk r.k 9
  let code := codeAt (pk r.e 4)
  let label := pk r.d L
  let key := pk (r.d.tdiv 5) 8
  let m : Ms := ⟨kind, pk r.a S, pk (r.a.tdiv 7) S, pk r.b S, 1 + pk r.c 6, 0, 0, 0, 0, 0, false, 0⟩
  if kind = 1 then { m with label := label, key := key, ask := pk r.e 9 }
  else if kind = 2 then { m with key := key, value := pk r.e 1073741824, ask := pk (r.e.tdiv 3) 9 }
  else if kind = 3 then { m with label := label, key := key, version := pk r.e 4 }
  else if kind = 4 then { m with yes := pk r.e 2 == 1 }
  else if kind = 5 then (if code = 0 then { m with label := label, key := key, ask := pk (r.e.tdiv 4) 9, code := code, value := pk r.e 99, version := pk r.e 5 } else { m with label := label, key := key, ask := pk (r.e.tdiv 4) 9, code := code })
  else if kind = 6 then { m with key := key, ask := pk (r.e.tdiv 4) 9, code := code }
  else if kind = 7 then { m with label := label, key := key, version := pk r.e 4, yes := pk r.e 2 == 1 }
  else m
def okSL (x : D) : Prop := isCfg x = true ∧ 1 ≤ (cfgOf x).1 ∧ (cfgOf x).1 ≤ 4 ∧ 1 ≤ (cfgOf x).2.1.length ∧ (cfgOf x).2.1.length ≤ 6
def sp_Txn : Sp := { pre := fun ds => ∃ x a b, ds = [x, .int .i64 a, .int .i64 b] ∧ okSL x ∧ inR .i64 a ∧ inR .i64 b, F := fun | [x, .int _ a, .int _ b] => .agg [.int .i64 (pk a (cfgOf x).1), .int .i64 (1 + pk b 6)] | _ => .any }
def sp_Message : Sp := { pre := fun ds => ∃ x r, ds = [x, rawD r] ∧ okSL x ∧ okRaw r, F := fun | [x, y] => msgD (mkMsg (cfgOf x).1 (cfgOf x).2.1.length (rawOf y)) | _ => .any }

theorem elem_codes {i : Int} (h0 : 0 ≤ i) (h1 : i < 4) : elem [[.int .i64 0], [.int .i64 0], [.int .i64 11], [.int .i64 8]] i.toNat = [.int .i64 (codeAt i)] := by
  have : i = 0 ∨ i = 1 ∨ i = 2 ∨ i = 3 := by omega
  rcases this with rfl | rfl | rfl | rfl <;> rfl
theorem elem_parts {i : Int} (h0 : 1 ≤ i) (h1 : i ≤ 9) : elem msgT i.toNat = bc (parts i) := by
  have : i = 1 ∨ i = 2 ∨ i = 3 ∨ i = 4 ∨ i = 5 ∨ i = 6 ∨ i = 7 ∨ i = 8 ∨ i = 9 := by omega
  rcases this with rfl | rfl | rfl | rfl | rfl | rfl | rfl | rfl | rfl <;> rfl
theorem inR_tdiv' {n m : Int} (h : inR .i64 n) (hm : 0 < m) : inR .i64 (n.tdiv m) := inR_tdiv h hm

section
variable {T : Tb}
attribute [local simp] k_seq k_block k_skip k_reg k_alt k_cond k_exit k_ret kf_nil kf_seq_n kf_seq_e kf_seq_r kf_blk_n kf_blk_e kf_blk_r kf_lp_n kf_lp_e kf_lp_r kf_cut_n kf_cut_e kf_cut_r mkTm VCops VCalt istep act gd applyE wrapD Opd.ev get_mk set_mk set_mk0 tget16 tset16 tget_0 tset_0 tget_1 tset_1 tget_2 tset_2 tget_3 tset_3 tget_4 tset_4 tget_5 tset_5 tget_6 tset_6 tget_7 tset_7 tget_8 tset_8 tget_9 tset_9 tget_10 tset_10 tget_11 tset_11 tget_12 tset_12 tget_13 tset_13 tget_14 tset_14 tget_15 tset_15 D.un D.gu gus IOp.opds binD fnPost getRes IRes.get oneRes D.out outL D.clos closL D.norow norowL D.lv lvL D.scal scalL D.cells D.cell D.cell' St.lk obPut obDel List.lookup cut pickD splice fillParts fillRows elem_cons newsOf D.pl D.forget forgetL Ob.forget forgetO eqCells sg leD leDL leOb apartK St.le D.keys keysL D.rows rowsL obKeys addKeys reach pos D.ren renL Ob.ren inM outM inObs outObs goneK apartN okNames_eq okNms obNms namesOK_nil namesOK_cons freeOK_nil freeOK_cons D.frz frzL Ob.frz frzO St.frz forgetLs dropObs putObs hcall freeOf keeps baseN shD isShift shMax k_bad VCopsG frz_nil actx actc cnum vwCut St.frzT St.opnT St.clsT D.opn opnL Ob.opn opnO VCou VCcx St.oneS D.objI D.objK scrL D.scr St.opnS St.clsS D.cellS D.fzs fzsL k_mrk k_mrq IOper.gh
theorem v_wtxn : Verified T ir_wire_txn sp_wtxn := by
  refine Verified.mk ?_
  rintro ds ⟨x, s, n, rfl, hx⟩
  obtain ⟨S, ls, p, rfl⟩ := isCfg_cfgD hx
  simp only [sp_wtxn, cfgOf_cfgD]
  simp [ir_wire_txn, cfgD, okTxn]
  try grind
theorem v_key : Verified T ir_wire_key sp_key := by
  refine Verified.mk ?_
  rintro ds ⟨k, rfl⟩
  simp [ir_wire_key, sp_key, okKey]
  try grind
theorem v_value : Verified T ir_wire_value sp_value := by
  refine Verified.mk ?_
  rintro ds ⟨k, rfl⟩
  simp [ir_wire_value, sp_value, okVal]
  try grind
theorem v_ask : Verified T ir_wire_ask sp_ask := by
  refine Verified.mk ?_
  rintro ds ⟨k, rfl⟩
  simp [ir_wire_ask, sp_ask, okAsk]
  try grind
theorem v_code : Verified T ir_wire_code sp_code := by
  refine Verified.mk ?_
  rintro ds ⟨k, rfl⟩
  simp [ir_wire_code, sp_code, okCode]
  try grind

theorem v_Txn (h1 : T.sp n_reredoskeep_picked = some sp_picked) : Verified T ir_reredoskeep_Txn sp_Txn := by
  refine Verified.mk ?_
  rintro ds ⟨x, a, b, rfl, ⟨hx, q1, q2, q3, q4⟩, ha, hb⟩
  obtain ⟨S, ls, p, rfl⟩ := isCfg_cfgD hx
  simp only [sp_Txn, cfgOf_cfgD] at q1 q2 q3 q4 ⊢
  have b1 := pk_bounds b 6 (by decide)
  simp [ir_reredoskeep_Txn, h1, sp_picked, cfgD, and_assoc, ha, hb]
  simp only [inR]; omega
end
theorem parts_eq (k : Int) : ∃ a b c d e f g h, parts k = [a, b, c, d, e, f, g, h] := by
  unfold parts
  split <;> exact ⟨_, _, _, _, _, _, _, _, rfl⟩

theorem okVal_bounds {v : Int} (h : okVal v = true) : 0 ≤ v ∧ v ≤ 1073741824 := by simpa [okVal] using h

section
variable {T : Tb}
attribute [local simp] k_seq k_block k_skip k_reg k_alt k_cond k_exit k_ret kf_nil kf_seq_n kf_seq_e kf_seq_r kf_blk_n kf_blk_e kf_blk_r kf_lp_n kf_lp_e kf_lp_r kf_cut_n kf_cut_e kf_cut_r mkTm VCops VCalt istep act gd applyE wrapD Opd.ev get_mk set_mk set_mk0 tget16 tset16 tget_0 tset_0 tget_1 tset_1 tget_2 tset_2 tget_3 tset_3 tget_4 tset_4 tget_5 tset_5 tget_6 tset_6 tget_7 tset_7 tget_8 tset_8 tget_9 tset_9 tget_10 tset_10 tget_11 tset_11 tget_12 tset_12 tget_13 tset_13 tget_14 tset_14 tget_15 tset_15 D.un D.gu gus IOp.opds binD fnPost getRes IRes.get oneRes D.out outL D.clos closL D.norow norowL D.lv lvL D.scal scalL D.cells D.cell D.cell' St.lk obPut obDel List.lookup cut pickD splice fillParts fillRows elem_cons newsOf D.pl D.forget forgetL Ob.forget forgetO eqCells sg leD leDL leOb apartK St.le D.keys keysL D.rows rowsL obKeys addKeys reach pos D.ren renL Ob.ren inM outM inObs outObs goneK apartN okNames_eq okNms obNms namesOK_nil namesOK_cons freeOK_nil freeOK_cons D.frz frzL Ob.frz frzO St.frz forgetLs dropObs putObs hcall freeOf keeps baseN shD isShift shMax k_bad VCopsG frz_nil actx actc cnum vwCut St.frzT St.opnT St.clsT D.opn opnL Ob.opn opnO VCou VCcx St.oneS D.objI D.objK scrL D.scr St.opnS St.clsS D.cellS D.fzs fzsL k_mrk k_mrq IOper.gh
set_option maxRecDepth 100000 in
set_option maxHeartbeats 4000000 in
theorem v_CheckMessage (hgl : T.gl 0 = .ad 8 msgT 0 0) (h1 : T.sp n_label_Check = some sp_Check) (h2 : T.sp n_wire_txn = some sp_wtxn) (h3 : T.sp n_wire_key = some sp_key) (h4 : T.sp n_wire_value = some sp_value) (h5 : T.sp n_wire_ask = some sp_ask) (h6 : T.sp n_wire_code = some sp_code) : Verified T ir_wire_CheckMessage sp_CheckMessage := by
  refine Verified.mk ?_
  rintro ds ⟨x, y, rfl, hx, hy⟩
  obtain ⟨S, ls, p, rfl⟩ := isCfg_cfgD hx
  obtain ⟨⟨kind, frm, to, site, n, label, key, value, version, ask, yes, code⟩, rfl⟩ := isMsg_msgD hy
  simp only [sp_CheckMessage, cfgOf_cfgD, msgOf_msgD]
  by_cases hk : kind < 1 ∨ 9 < kind
  · have e1 : check S ls p ≠ 0 → chkM S ls p ⟨kind, frm, to, site, n, label, key, value, version, ask, yes, code⟩ = check S ls p := fun q => by rw [chkM, if_pos q]
    have e2 : check S ls p = 0 → chkM S ls p ⟨kind, frm, to, site, n, label, key, value, version, ask, yes, code⟩ = 3 := fun q => by rw [chkM, if_neg (by simp [q]), if_pos hk]
    generalize chkM S ls p ⟨kind, frm, to, site, n, label, key, value, version, ask, yes, code⟩ = r at e1 e2 ⊢
    have hk2 : 1 ≤ kind → 9 < kind := fun q => by omega
    simp (implicitDefEqProofs := false) (maxSteps := 10000000) [ir_wire_CheckMessage, h1, h2, h3, h4, h5, h6, hgl, sp_Check, cfgD, isCfg, isLb_lbc, cfgOf, lbL_lbc, msgD, msgC]
    exact ⟨fun q => (e1 q).symm, fun q => ⟨fun _ => (e2 q).symm, fun x y => absurd (hk2 x) (by omega)⟩⟩
  · obtain ⟨a, b, c, d, e, f, g, h, hp⟩ := parts_eq kind
    have hel : elem msgT kind.toNat = [.bool a, .bool b, .bool c, .bool d, .bool e, .bool f, .bool g, .bool h] := by
      rw [elem_parts (by omega) (by omega), hp]; rfl
    have hk1 : ¬ kind < 1 := by omega
    have hk2 : ¬ 9 < kind := by omega
    have hlen : msgT.length = 10 := rfl
    simp (implicitDefEqProofs := false) (maxSteps := 10000000) [ir_wire_CheckMessage, h1, h2, h3, h4, h5, h6, hgl, hel, hk1, hk2, hlen, sp_Check, sp_wtxn, sp_key, sp_value, sp_ask, sp_code, cfgD, isCfg, isLb_lbc, cfgOf, lbL_lbc, msgD, msgC]
    have e1 : check S ls p ≠ 0 → chkM S ls p ⟨kind, frm, to, site, n, label, key, value, version, ask, yes, code⟩ = check S ls p := fun q => by rw [chkM, if_pos q]
    have e2 : check S ls p = 0 → ¬ okRange S ls.length ⟨kind, frm, to, site, n, label, key, value, version, ask, yes, code⟩ → chkM S ls p ⟨kind, frm, to, site, n, label, key, value, version, ask, yes, code⟩ = 2 := fun q q2 => by rw [chkM, if_neg (by simp [q]), if_neg hk, if_pos q2]
    have e3 : check S ls p = 0 → okRange S ls.length ⟨kind, frm, to, site, n, label, key, value, version, ask, yes, code⟩ → ¬ okForm ⟨kind, frm, to, site, n, label, key, value, version, ask, yes, code⟩ → chkM S ls p ⟨kind, frm, to, site, n, label, key, value, version, ask, yes, code⟩ = 4 := fun q q2 q3 => by rw [chkM, if_neg (by simp [q]), if_neg hk, if_neg (by simp [q2]), if_pos q3]
    have e4 : check S ls p = 0 → okRange S ls.length ⟨kind, frm, to, site, n, label, key, value, version, ask, yes, code⟩ → okForm ⟨kind, frm, to, site, n, label, key, value, version, ask, yes, code⟩ → chkM S ls p ⟨kind, frm, to, site, n, label, key, value, version, ask, yes, code⟩ = 0 := fun q q2 q3 => by rw [chkM, if_neg (by simp [q]), if_neg hk, if_neg (by simp [q2]), if_neg (by simp [q3])]
    generalize chkM S ls p ⟨kind, frm, to, site, n, label, key, value, version, ask, yes, code⟩ = r at e1 e2 e3 e4 ⊢
    simp only [okRange, okForm, pt, hp] at e2 e3 e4
    simp only [List.getD_cons_zero, List.getD_cons_succ] at e2 e3 e4
    refine ⟨fun q => (e1 q).symm, fun q => ⟨fun q2 => (e2 q (by
      rintro ⟨a1, a2, a3, a4, a5, a6, a7, a8, a9, a10, a11, a12, a13⟩
      simp only [a5, a8, a9, a12, a13, Bool.true_eq_false, or_false] at q2
      omega)).symm, fun p1 p2 p3 p4 p5 p6 p7 p8 p9 p10 p11 p12 p13 => ?_⟩⟩
    have hr : 0 ≤ frm ∧ frm < S ∧ 0 ≤ to ∧ to < S ∧ okTxn S site n = true ∧ 0 ≤ label ∧ label < ↑ls.length ∧ okKey key = true ∧ okVal value = true ∧ 0 ≤ version ∧ version ≤ 1048576 ∧ okAsk ask = true ∧ okCode code = true := ⟨p1, p2, p3, p4, p5, p6, p7, p8, p9, p10, p11, p12, p13⟩
    replace e3 := e3 q hr
    replace e4 := e4 q hr
    refine ⟨by omega, by omega, ?_⟩
    have hb := okVal_bounds p9
    have hin : -9223372036854775808 ≤ value + version ∧ value + version ≤ 9223372036854775807 := by omega
    have im : ∀ (x : Bool) (P : Prop), (x = false → P) ↔ (x = true ∨ P) := fun x P => by cases x <;> simp
    have im2 : ∀ (x : Bool) (P : Prop), (x = false ∧ ¬ P) ↔ ¬ (x = true ∨ P) := fun x P => by cases x <;> simp
    have im3 : (f = false ∧ yes = true) ↔ ¬ (f = true ∨ yes = false) := by cases f <;> cases yes <;> simp
    have imc : (¬ code = 0 → value + version = 0) ↔ (code = 0 ∨ value + version = 0) := by
      by_cases h : code = 0 <;> simp [h]
    have imc2 : (¬ code = 0 ∧ ¬ value + version = 0) ↔ ¬ (code = 0 ∨ value + version = 0) := by
      by_cases h : code = 0 <;> simp [h]
    rw [im a (label = 0), im b (key = 0), im c (value = 0), im d (version = 0), im e (ask = 0), im f (yes = false), im g (code = 0)] at e3 e4
    rw [im a (label = 0), im b (key = 0), im c (value = 0), im d (version = 0), im e (ask = 0), im f (yes = false), im g (code = 0), im2 a (label = 0), im2 b (key = 0), im2 c (value = 0), im2 d (version = 0), im2 e (ask = 0), im3, im2 g (code = 0), imc, imc2]
    generalize (a = true ∨ label = 0) = A at e3 e4 ⊢
    generalize (b = true ∨ key = 0) = B at e3 e4 ⊢
    generalize (c = true ∨ value = 0) = C at e3 e4 ⊢
    generalize (d = true ∨ version = 0) = D at e3 e4 ⊢
    generalize (e = true ∨ ask = 0) = E at e3 e4 ⊢
    generalize (f = true ∨ yes = false) = F at e3 e4 ⊢
    generalize (g = true ∨ code = 0) = G at e3 e4 ⊢
    generalize (code = 0 ∨ value + version = 0) = H at e3 e4 ⊢
    clear e1 e2 hel hp hgl h1 h2 h3 h4 h5 h6 im im2 im3 imc imc2 hx hy hk hk1 hk2 hlen hr hb p1 p2 p3 p4 p5 p6 p7 p8 p9 p10 p11 p12 p13 q
    repeat' (first | (intro _) | (apply And.intro))
    all_goals first | assumption | exact hin.1 | exact hin.2 | grind
end
section
variable {T : Tb}
attribute [local simp] k_seq k_block k_skip k_reg k_alt k_cond k_exit k_ret kf_nil kf_seq_n kf_seq_e kf_seq_r kf_blk_n kf_blk_e kf_blk_r kf_lp_n kf_lp_e kf_lp_r kf_cut_n kf_cut_e kf_cut_r mkTm VCops VCalt istep act gd applyE wrapD Opd.ev get_mk set_mk set_mk0 tget16 tset16 tget_0 tset_0 tget_1 tset_1 tget_2 tset_2 tget_3 tset_3 tget_4 tset_4 tget_5 tset_5 tget_6 tset_6 tget_7 tset_7 tget_8 tset_8 tget_9 tset_9 tget_10 tset_10 tget_11 tset_11 tget_12 tset_12 tget_13 tset_13 tget_14 tset_14 tget_15 tset_15 D.un D.gu gus IOp.opds binD fnPost getRes IRes.get oneRes D.out outL D.clos closL D.norow norowL D.lv lvL D.scal scalL D.cells D.cell D.cell' St.lk obPut obDel List.lookup cut pickD splice fillParts fillRows elem_cons newsOf D.pl D.forget forgetL Ob.forget forgetO eqCells sg leD leDL leOb apartK St.le D.keys keysL D.rows rowsL obKeys addKeys reach pos D.ren renL Ob.ren inM outM inObs outObs goneK apartN okNames_eq okNms obNms namesOK_nil namesOK_cons freeOK_nil freeOK_cons D.frz frzL Ob.frz frzO St.frz forgetLs dropObs putObs hcall freeOf keeps baseN shD isShift shMax k_bad VCopsG frz_nil actx actc cnum vwCut St.frzT St.opnT St.clsT D.opn opnL Ob.opn opnO VCou VCcx St.oneS D.objI D.objK scrL D.scr St.opnS St.clsS D.cellS D.fzs fzsL k_mrk k_mrq IOper.gh
set_option maxRecDepth 100000 in
set_option maxHeartbeats 4000000 in
theorem v_Message (h1 : T.sp n_reredoskeep_picked = some sp_picked) (h2 : T.sp n_reredoskeep_Txn = some sp_Txn) : Verified T ir_reredoskeep_Message sp_Message := by
  refine Verified.mk ?_
  rintro ds ⟨x, r, rfl, ⟨hx, q1, q2, q3, q4⟩, hr⟩
  obtain ⟨S, ls, p, rfl⟩ := isCfg_cfgD hx
  obtain ⟨k, a, b, c, d, e⟩ := r
  obtain ⟨r1, r2, r3, r4, r5, r6⟩ := hr
  simp only at r1 r2 r3 r4 r5 r6
  have hpre : sp_Txn.pre [.agg [.int .i64 S, .fz 2 (ls.map lbc), .int .i64 p], .int .i64 b, .int .i64 c] := ⟨_, b, c, rfl, ⟨hx, q1, q2, q3, q4⟩, r3, r4⟩
  have hF : sp_Txn.F [.agg [.int .i64 S, .fz 2 (ls.map lbc), .int .i64 p], .int .i64 b, .int .i64 c] = .agg [.int .i64 (pk b S), .int .i64 (1 + pk c 6)] := by simp [sp_Txn, cfgOf]
  have hx2 : sp_Txn.hx = none := rfl
  simp only [sp_Message, cfgOf_cfgD, rawOf_rawD] at q1 q2 q3 q4 ⊢
  have t7 := inR_tdiv (b := 7) r2 (by decide)
  have t5 := inR_tdiv (b := 5) r5 (by decide)
  have t3 := inR_tdiv (b := 3) r6 (by decide)
  have t4 := inR_tdiv (b := 4) r6 (by decide)
  have b4 := pk_bounds e 4 (by decide)
  have b9 := pk_bounds k 9 (by decide)
  have hS : 0 < S := by omega
  have hL : 0 < ls.length := by omega
  have hel := elem_codes b4.1 b4.2
  have hin : inR .i64 (1 + pk k 9) := by simp only [inR]; omega
  simp (implicitDefEqProofs := false) (maxSteps := 10000000) [ir_reredoskeep_Message, h1, hpre, hF, hx2, h2, sp_picked, hel, b4, hin, r1, r2, r3, r4, r5, r6, t7, t5, t3, t4, hS, hL, cfgD, rawD, rawC, and_assoc]
  simp only [mkMsg]
  repeat' (first | apply And.intro | intro _)
  all_goals simp_all [msgD, msgC]
end

/-! ### Such a message may be -/
theorem pk_range (n m : Int) (hm : 0 < m) (b : Int) (hb : m ≤ b + 1) : 0 ≤ pk n m ∧ pk n m ≤ b := by
  have := pk_bounds n m hm; omega
theorem codeAt_ok (i : Int) : okCode (codeAt i) = true := by
  unfold codeAt; split
  · decide
  · split <;> decide
theorem okKey_pk (n : Int) : okKey (pk n 8) = true := by
  have := pk_bounds n 8 (by decide); simp [okKey]; omega
theorem okVal_pk (n m : Int) (h0 : 0 < m) (h1 : m ≤ 1073741824) : okVal (pk n m) = true := by
  have := pk_bounds n m h0; simp [okVal]; omega
theorem okAsk_pk (n m : Int) (h0 : 0 < m) (h1 : m ≤ 100) : okAsk (pk n m) = true := by
  have := pk_bounds n m h0; simp [okAsk]; omega
theorem okTxn_pk (S a b : Int) (h0 : 0 < S) : okTxn S (pk a S) (1 + pk b 6) = true := by
  have := pk_bounds a S h0; have := pk_bounds b 6 (by decide); simp [okTxn]; omega
theorem mkMsg_kind (S L : Int) (r : Rw) : (mkMsg S L r).kind = 1 + pk r.k 9 := by
  unfold mkMsg
  simp only
  repeat' split
  all_goals rfl
theorem mkMsg_range (S L : Int) (r : Rw) (hS : 0 < S) (hL : 0 < L) : okRange S L (mkMsg S L r) := by
  have h1 := pk_bounds r.a S hS
  have h2 := pk_bounds (r.a.tdiv 7) S hS
  have h3 := okTxn_pk S r.b r.c hS
  have h4 := pk_bounds r.d L hL
  have h5 := okKey_pk (r.d.tdiv 5)
  have k0 : okKey 0 = true := by decide
  have v0 : okVal 0 = true := by decide
  have a0 : okAsk 0 = true := by decide
  have c0 : okCode 0 = true := by decide
  have v1 := okVal_pk r.e 1073741824 (by decide) (by decide)
  have v2 := okVal_pk r.e 99 (by decide) (by decide)
  have a1 := okAsk_pk r.e 9 (by decide) (by decide)
  have a3 := okAsk_pk (r.e.tdiv 3) 9 (by decide) (by decide)
  have a4 := okAsk_pk (r.e.tdiv 4) 9 (by decide) (by decide)
  have c1 := codeAt_ok (pk r.e 4)
  have e4 := pk_range r.e 4 (by decide) 1048576 (by decide)
  have e5 := pk_range r.e 5 (by decide) 1048576 (by decide)
  unfold mkMsg
  simp only
  repeat' split
  all_goals
    simp only [okRange, h1, h2, h3, h4, h5, k0, v0, a0, c0, v1, v2, a1, a3, a4, c1, e4, e5, hL, and_self, true_and, and_true, Int.le_refl]
  all_goals first | done | decide | omega
theorem mkMsg_form (S L : Int) (r : Rw) : okForm (mkMsg S L r) := by
  have h9 := pk_bounds r.k 9 (by decide)
  unfold mkMsg
  simp only
  generalize 1 + pk r.k 9 = kind at *
  split
  · rename_i h; subst h; simp [okForm, pt, parts]
  split
  · rename_i h; subst h; simp [okForm, pt, parts]
  split
  · rename_i h; subst h; simp [okForm, pt, parts]
  split
  · rename_i h; subst h; simp [okForm, pt, parts]
  split
  · rename_i h; subst h
    split
    · rename_i h; simp [okForm, pt, parts, h]
    · simp [okForm, pt, parts]
  split
  · rename_i h; subst h; simp [okForm, pt, parts]
  split
  · rename_i h; subst h; simp [okForm, pt, parts]
  · simp [okForm]
theorem mkMsg_ok (s p : Int) (ls : List (Int × Int)) (r : Rw) (hc : check s ls p = 0) (hS : 0 < s) (hL : 0 < ls.length) : chkM s ls p (mkMsg s ls.length r) = 0 := by
  have h9 := pk_bounds r.k 9 (by decide)
  have hr := mkMsg_range s ls.length r hS (by omega)
  have hf := mkMsg_form s ls.length r
  rw [chkM, if_neg (by simp [hc]), if_neg (by rw [mkMsg_kind]; omega), if_neg (by simp [hr]), if_neg (by simp [hf])]

end Go.Proofs.YtchbnpjegacobaaDoor
