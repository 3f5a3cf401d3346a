/-
  label.Check, two and what checks records. Conditions: those of its specification's 'pre', and that the functions that are called are what theirs say.
-/
import Derived.Test.YtpkabalijooeaaaDoorStZ
set_option linter.unusedVariables false
set_option linter.unusedSimpArgs false
namespace Go.Proofs.YtpkabalijooeaaaDoor
open Go Go.Vcg

def lb (p : Int × Int) : D := .agg [.int .i64 p.1, .int .i64 p.2]
def lbOf : D → Int × Int
  | .agg [.int _ a, .int _ b] => (a, b)
  | _ => (0, 0)
def lbc (p : Int × Int) : List D := [.int .i64 p.1, .int .i64 p.2]
def cfgD (s : Int) (ls : List (Int × Int)) (p : Int) : D := .agg [.int .i64 s, .fz 2 (ls.map lbc), .int .i64 p]

def one (l : Int × Int) : Bool := decide (0 ≤ l.1) && decide (l.1 ≤ 9) && decide (0 ≤ l.2) && decide (l.2 ≤ 15)
/-- The labels behind those that were seen. -/
def chkL : List (Int × Int) → List (Int × Int) → Int
  | _, [] => 0
  | pre, l :: r => if one l = false then 2 else if l ∈ pre then 7 else chkL (pre ++ [l]) r
def check (s : Int) (ls : List (Int × Int)) (p : Int) : Int :=
  if s < 1 ∨ 4 < s then 2 else if ls.length < 1 ∨ 6 < ls.length then 1 else
  if chkL [] ls = 0 then (if p < 1 ∨ 1048576 < p then 2 else 0) else chkL [] ls

def sp_one : Sp := { pre := fun ds => ∃ a, ds = [lb a], F := fun | [x] => .bool (one (lbOf x)) | _ => .any }
def lbL (e : List D) : Int × Int := lbOf (.agg e)
theorem lbL_lbc : lbL ∘ lbc = id := rfl
def cfgOf : D → Int × List (Int × Int) × Int
  | .agg [.int _ s, .fz _ es, .int _ p] => (s, es.map lbL, p)
  | _ => (0, [], 0)
def isLb : List D → Bool
  | [.int .i64 _, .int .i64 _] => true
  | _ => false
theorem isLb_lbc : isLb ∘ lbc = fun _ => true := rfl
def isCfg : D → Bool
  | .agg [.int .i64 s, .fz 2 es, .int .i64 p] => es.all isLb
  | _ => false
theorem isLb_map : ∀ {es : List (List D)}, es.all isLb = true → es = (es.map lbL).map lbc
  | [], _ => rfl
  | e :: es, h => by
    simp only [List.all_cons, Bool.and_eq_true] at h
    simp only [List.map_cons]
    rw [← isLb_map h.2]
    have he := h.1
    unfold isLb at he
    split at he
    · rfl
    · cases he
theorem isCfg_cfgD {x : D} (h : isCfg x = true) : ∃ s ls p, x = cfgD s ls p := by
  unfold isCfg at h
  split at h
  · rename_i s es p
    exact ⟨s, es.map lbL, p, by rw [cfgD, ← isLb_map h]⟩
  · cases h
def sp_Check : Sp := { pre := fun ds => ∃ x, ds = [x] ∧ isCfg x = true, F := fun | [x] => .int .i64 (check (cfgOf x).1 (cfgOf x).2.1 (cfgOf x).2.2) | _ => .any }

theorem cfgOf_cfgD (s : Int) (ls : List (Int × Int)) (p : Int) : cfgOf (cfgD s ls p) = (s, ls, p) := by
  simp [cfgOf, cfgD, lbL_lbc]

def ic (n : Int) : List D := [.int .i64 n]
def intsD (ns : List Int) : D := .fz 1 (ns.map ic)
def intOf : List D → Int
  | [.int _ n] => n
  | _ => 0
theorem intOf_ic : intOf ∘ ic = id := rfl
def intsOf : D → List Int
  | .fz _ es => es.map intOf
  | _ => []
theorem intsOf_intsD (ns : List Int) : intsOf (intsD ns) = ns := by
  simp [intsOf, intsD, intOf_ic]

theorem mem_snoc_dec (A : List (Int × Int)) (x l : Int × Int) : (decide (l ∈ A) || (x.1 == l.1 && x.2 == l.2)) = decide (l ∈ A ++ [x]) := by
  have e : (x.1 == l.1 && x.2 == l.2) = decide (l = x) := by
    rw [Bool.eq_iff_iff]
    simp only [Bool.and_eq_true, beq_iff_eq, decide_eq_true_eq, Prod.ext_iff]
    exact ⟨fun h => ⟨h.1.symm, h.2.symm⟩, fun h => ⟨h.1.symm, h.2.symm⟩⟩
  rw [e]
  by_cases q : l ∈ A <;> simp [q]

def bc (l : List Bool) : List D := l.map .bool
def okTxn (S site n : Int) : Bool := decide (0 ≤ site) && decide (site < S) && decide (1 ≤ n) && decide (n ≤ 1048576)
def okKey (k : Int) : Bool := decide (0 ≤ k) && decide (k < 8)
def okVal (v : Int) : Bool := decide (0 ≤ v) && decide (v ≤ 1073741824)
def okAsk (n : Int) : Bool := decide (0 ≤ n) && decide (n ≤ 1048576)
def sp_wtxn : Sp := { pre := fun ds => ∃ x s n, ds = [x, .agg [.int .i64 s, .int .i64 n]] ∧ isCfg x = true, F := fun | [x, .agg [.int _ s, .int _ n]] => .bool (okTxn (cfgOf x).1 s n) | _ => .any }
def sp_key : Sp := { pre := fun ds => ∃ k, ds = [.int .i64 k], F := fun | [.int _ k] => .bool (okKey k) | _ => .any }
def sp_value : Sp := { pre := fun ds => ∃ k, ds = [.int .i64 k], F := fun | [.int _ k] => .bool (okVal k) | _ => .any }
def sp_ask : Sp := { pre := fun ds => ∃ k, ds = [.int .i64 k], F := fun | [.int _ k] => .bool (okAsk k) | _ => .any }
/-- Two labels. -/
def twoC (S P : Int) : List D := [.int .i64 S, .fz 2 [[.int .i64 0, .int .i64 0], [.int .i64 1, .int .i64 0]], .int .i64 P]
theorem check_two {S P : Int} (hS : 1 ≤ S ∧ S ≤ 4) (hP : 1 ≤ P ∧ P ≤ 1048576) : check S [(0, 0), (1, 0)] P = 0 := by
  have : chkL [] [(0, 0), (1, 0)] = 0 := by decide
  rw [check, if_neg (by omega), if_neg (by simp), if_pos this, if_neg (by omega)]
theorem lcheck_F {S P : Int} (hS : 1 ≤ S ∧ S ≤ 4) (hP : 1 ≤ P ∧ P ≤ 1048576) : sp_Check.F [.agg (twoC S P)] = .int .i64 0 := by
  have e : D.agg (twoC S P) = cfgD S [(0, 0), (1, 0)] P := rfl
  simp only [e, sp_Check, cfgOf_cfgD, check_two hS hP]
theorem lcheck_pre (S P : Int) : sp_Check.pre [.agg (twoC S P)] = True := by
  simp only [sp_Check, eq_iff_iff, iff_true]; exact ⟨_, rfl, rfl⟩
def sp_two : Sp := { pre := fun ds => ∃ s : Int, ds = [.int .i64 s] ∧ inR .i64 s, F := fun | [.int _ s] => .agg (twoC (1 + pk s 3) 3) | _ => .any }
theorem two_F (s : Int) : sp_two.F [.int .i64 s] = .agg (twoC (1 + pk s 3) 3) := rfl
theorem two_pre {s : Int} (h : inR .i64 s) : sp_two.pre [.int .i64 s] = True := by
  simp only [sp_two, eq_iff_iff, iff_true]; exact ⟨_, rfl, h⟩
structure Rc where
  (kind site n key value ask : Int) (yes : Bool) (sites : List Int)
  deriving DecidableEq
def recC (r : Rc) : List D := [.int .i64 r.kind, .int .i64 r.site, .int .i64 r.n, .int .i64 r.key, .int .i64 r.value, .int .i64 r.ask, .bool r.yes, .fz 1 (r.sites.map ic)]
def recD (r : Rc) : D := .agg (recC r)
def recL : List D → Rc
  | [.int _ a, .int _ b, .int _ c, .int _ d, .int _ e, .int _ f, .bool y, .fz _ l] => ⟨a, b, c, d, e, f, y, intsOf (.fz 1 l)⟩
  | _ => ⟨0, 0, 0, 0, 0, 0, false, []⟩
def recOf : D → Rc
  | .agg cs => recL cs
  | _ => recL []
theorem recOf_recD (r : Rc) : recOf (recD r) = r := by
  obtain ⟨a, b, c, d, e, f, y, l⟩ := r
  simp [recOf, recD, recC, recL, intsOf, intOf_ic]

/-- What a record's kind has. -/
def rparts : Int → List Bool
  | 1 => [false, true, true, false, true, false, false, false]
  | 2 => [false, false, false, false, false, true, false, false]
  | 3 => [false, false, false, false, false, false, false, true]
  | 6 => [false, false, false, false, false, true, false, false]
  | _ => [false, false, false, false, false, false, false, false]
def recT : List (List D) := [bc (rparts 0), bc (rparts 1), bc (rparts 2), bc (rparts 3), bc (rparts 4), bc (rparts 5), bc (rparts 6)]
def rp (k : Int) (i : Nat) : Bool := (rparts k).getD i false
/-- The first j of these are sites in order. -/
def okUpto (S : Int) (l : List Int) (j : Nat) : Prop := ∀ i, i < j → 0 ≤ l.getD i 0 ∧ l.getD i 0 < S ∧ (0 < i → l.getD (i - 1) 0 < l.getD i 0)
def okNums (S : Int) (r : Rc) : Prop := okTxn S r.site r.n = true ∧ okKey r.key = true ∧ okVal r.value = true ∧ okAsk r.ask = true
def okFormR (r : Rc) : Prop := (rp r.kind 1 = false → r.key = 0) ∧ (rp r.kind 2 = false → r.value = 0) ∧ (rp r.kind 4 = false → r.ask = 0) ∧ (rp r.kind 5 = false → r.yes = false) ∧ (rp r.kind 7 = false → r.sites.length = 0)
open Classical in
noncomputable def chkR (s : Int) (ls : List (Int × Int)) (p : Int) (r : Rc) : Int :=
  if check s ls p ≠ 0 then check s ls p else if r.kind < 1 ∨ 6 < r.kind then 3 else if ¬ okNums s r then 2 else if ¬ okUpto s r.sites r.sites.length then 2 else if ¬ okFormR r then 4 else 0
noncomputable def sp_CheckRecord : Sp := { pre := fun ds => ∃ x r, ds = [x, recD r] ∧ isCfg x = true ∧ r.sites.length ≤ 9223372036854775807, F := fun | [x, y] => .int .i64 (chkR (cfgOf x).1 (cfgOf x).2.1 (cfgOf x).2.2 (recOf y)) | _ => .any }

theorem elem_rparts {i : Int} (h0 : 1 ≤ i) (h1 : i ≤ 6) : elem recT i.toNat = bc (rparts i) := by
  have : i = 1 ∨ i = 2 ∨ i = 3 ∨ i = 4 ∨ i = 5 ∨ i = 6 := by omega
  rcases this with rfl | rfl | rfl | rfl | rfl | rfl <;> rfl
theorem rparts_eq (k : Int) : ∃ a b c d e f g h, rparts k = [a, b, c, d, e, f, g, h] := by
  unfold rparts
  split <;> exact ⟨_, _, _, _, _, _, _, _, rfl⟩
theorem okUpto_succ {S : Int} {l : List Int} {j : Nat} : okUpto S l (j + 1) ↔ okUpto S l j ∧ 0 ≤ l.getD j 0 ∧ l.getD j 0 < S ∧ (0 < j → l.getD (j - 1) 0 < l.getD j 0) := by
  constructor
  · intro h
    exact ⟨fun i hi => h i (by omega), h j (by omega)⟩
  · rintro ⟨h1, h2⟩ i hi
    by_cases e : i = j
    · subst e; exact h2
    · exact h1 i (by omega)

section
variable {T : Tb}
attribute [local simp] k_seq k_block k_skip k_reg k_alt k_cond k_exit k_ret kf_nil kf_seq_n kf_seq_e kf_seq_r kf_blk_n kf_blk_e kf_blk_r kf_lp_n kf_lp_e kf_lp_r kf_cut_n kf_cut_e kf_cut_r mkTm VCops VCalt istep act gd applyE wrapD Opd.ev get_mk set_mk set_mk0 tget16 tset16 tget_0 tset_0 tget_1 tset_1 tget_2 tset_2 tget_3 tset_3 tget_4 tset_4 tget_5 tset_5 tget_6 tset_6 tget_7 tset_7 tget_8 tset_8 tget_9 tset_9 tget_10 tset_10 tget_11 tset_11 tget_12 tset_12 tget_13 tset_13 tget_14 tset_14 tget_15 tset_15 D.un D.gu gus IOp.opds binD fnPost getRes IRes.get oneRes D.out outL D.clos closL D.norow norowL D.lv lvL D.scal scalL D.cells D.cell D.cell' St.lk obPut obDel List.lookup cut pickD splice fillParts fillRows elem_cons newsOf D.pl D.forget forgetL Ob.forget forgetO eqCells sg leD leDL leOb apartK St.le D.keys keysL D.rows rowsL obKeys addKeys reach pos D.ren renL Ob.ren inM outM inObs outObs goneK apartN okNames_eq okNms obNms namesOK_nil namesOK_cons freeOK_nil freeOK_cons D.frz frzL Ob.frz frzO St.frz forgetLs dropObs putObs hcall freeOf keeps baseN shD isShift shMax k_bad VCopsG frz_nil actx actc cnum vwCut St.frzT St.opnT St.clsT D.opn opnL Ob.opn opnO
theorem v_one : Verified T ir_label_one sp_one := by
  refine Verified.mk ?_
  rintro ds ⟨⟨a, b⟩, rfl⟩
  simp [ir_label_one, sp_one, lb, lbOf, one]
  rfl

theorem v_Check (h1 : T.sp n_label_one = some sp_one) : Verified T ir_label_Check sp_Check := by
  refine Verified.mk ?_
  rintro ds ⟨x, rfl, hx⟩
  obtain ⟨s, ls, p, rfl⟩ := isCfg_cfgD hx
  simp only [sp_Check, cfgOf_cfgD]
  simp [ir_label_Check, h1, cfgD]
  refine ⟨fun h => by simp [check, h], fun h1' h2' => ⟨fun h => ?_, fun h3 h4 => ?_⟩⟩
  · rw [check, if_neg (by omega), if_pos (by omega)]
  refine k_loop (ι := {i : Nat // i ≤ ls.length ∧ chkL (ls.take i) (ls.drop i) = chkL [] ls}) (fun x => ⟨mkTm 58 0 [(1, .own 1 0), (26, .fz 2 (ls.map lbc)), (27, .int .i64 ls.length), (28, .int .i64 x.1)], [(1, .box [.int .i64 s, .fz 2 (ls.map lbc), .int .i64 p])]⟩)
    (fun x => ls.length - x.1) [] ⟨0, by simp⟩ (by simp) ?_
  rintro ⟨i, hi, hinv⟩ P hP
  rcases Nat.lt_or_ge i ls.length with h | h
  · have hd : ls.drop i = ls[i] :: ls.drop (i + 1) := List.drop_eq_getElem_cons h
    rw [hd, chkL] at hinv
    have hch : one ls[i] = false → check s ls p = 2 := fun ho => by
      rw [if_pos ho] at hinv
      rw [check, if_neg (by omega), if_neg (by omega), if_neg (by omega), hinv]
    simp [ir_label_Check_b2, h, h1, elem_map, lbc, sp_one, lb, lbOf]
    refine ⟨fun ho => (hch ho).symm, fun ho => ⟨hi, ?_⟩⟩
    rw [if_neg (by simp [ho])] at hinv
    have hch7 : ls[i] ∈ ls.take i → check s ls p = 7 := fun hm => by
      rw [if_pos hm] at hinv
      rw [check, if_neg (by omega), if_neg (by omega), if_neg (by omega), hinv]
    have htk : (ls.take (i + 1)) = ls.take i ++ [ls[i]] := (List.take_append_getElem h).symm
    rw [Nat.min_eq_left hi, ← List.map_take]
    rw [← htk] at hinv
    have hpl : (ls.take i).length = i := by simp; omega
    generalize ls.take i = pre at hch7 hpl hinv htk ⊢
    generalize ls[i] = l at hch7 htk ho hinv ⊢
    refine k_loop (ι := {j : Nat // j ≤ i ∧ l ∉ pre.take j}) (fun x => ⟨mkTm 58 0 [(1, .own 1 0), (4, .own 4 0), (26, .fz 2 (ls.map lbc)), (27, .int .i64 ls.length), (28, .int .i64 i), (39, .fz 2 (pre.map lbc)), (40, .int .i64 i), (41, .int .i64 x.1)], [(1, .box [.int .i64 s, .fz 2 (ls.map lbc), .int .i64 p]), (4, .box (lbc l))]⟩)
      (fun x => i - x.1) [] ⟨0, by simp⟩ (by simp [lbc]) ?_
    rintro ⟨j, hj, hnm⟩ P' hP'
    rcases Nat.lt_or_ge j i with g | g
    · have hjl : j < pre.length := by omega
      have hd' : pre.take (j + 1) = pre.take j ++ [pre[j]] := (List.take_append_getElem hjl).symm
      simp [ir_label_Check_b0, g, hjl, elem_map, lbc, lbOf]
      have key : ∀ q : pre[j] = l, l ∈ pre := fun q => q ▸ List.getElem_mem hjl
      refine ⟨fun e1 e2 => (hch7 (key (Prod.ext e1 e2))).symm, fun hne => ⟨by simp only [inR]; omega, hP' _ [] ⟨j + 1, by omega, ?_⟩ (by simp [lbc]) (by simp; omega)⟩⟩
      rw [hd', List.mem_append]
      rintro (q | q)
      · exact hnm q
      · simp only [List.mem_singleton] at q
        exact hne (by rw [← q]) (by rw [← q])
    · simp [ir_label_Check_b0, ir_label_Check_r1, Nat.not_lt.2 g]
      refine ⟨by simp only [inR]; omega, hP _ [] ⟨i + 1, by omega, ?_⟩ (by simp) (by simp; omega)⟩
      rw [List.take_of_length_le (by omega)] at hnm
      rw [if_neg hnm] at hinv
      exact hinv
  · simp [ir_label_Check_b2, ir_label_Check_r3, Nat.not_lt.2 h]
    have hz : chkL [] ls = 0 := by rw [← hinv, List.drop_eq_nil_of_le h, chkL]
    have hc : check s ls p = if p < 1 ∨ 1048576 < p then 2 else 0 := by
      rw [check, if_neg (by omega), if_neg (by omega), if_pos hz]
    rw [hc]
    exact ⟨fun q => by rw [if_pos q], fun q1 q2 => by rw [if_neg (by omega)]⟩
theorem v_wtxn : Verified T ir_wire_txn sp_wtxn := by
  refine Verified.mk ?_
  rintro ds ⟨x, s, n, rfl, hx⟩
  obtain ⟨S, ls, p, rfl⟩ := isCfg_cfgD hx
  simp only [sp_wtxn, cfgOf_cfgD]
  simp [ir_wire_txn, cfgD, okTxn]
  try grind
theorem v_key : Verified T ir_wire_key sp_key := by
  refine Verified.mk ?_
  rintro ds ⟨k, rfl⟩
  simp [ir_wire_key, sp_key, okKey]
  try grind
theorem v_value : Verified T ir_wire_value sp_value := by
  refine Verified.mk ?_
  rintro ds ⟨k, rfl⟩
  simp [ir_wire_value, sp_value, okVal]
  try grind
theorem v_ask : Verified T ir_wire_ask sp_ask := by
  refine Verified.mk ?_
  rintro ds ⟨k, rfl⟩
  simp [ir_wire_ask, sp_ask, okAsk]
  try grind
theorem v_two (h1 : T.sp n_reredoskeep_picked = some sp_picked) : Verified T ir_reredoskeep_two sp_two := by
  refine Verified.mk ?_
  rintro ds ⟨s, rfl, hs⟩
  have x1 : sp_picked.hx = none := rfl
  have b1 := pk_bounds s 3 (by decide)
  have q1 := pk_pre hs (m := 3) (by decide)
  have q2 := pk_F s 3
  rw [two_F]
  generalize pk s 3 = A at b1 q2 ⊢
  have r1 : inR .i64 (1 + A) := by simp only [inR]; omega
  simp (implicitDefEqProofs := false) (maxSteps := 10000000) [ir_reredoskeep_two, twoC, h1, x1, q1, q2, r1]
set_option maxRecDepth 100000 in
set_option maxHeartbeats 4000000 in
theorem v_CheckRecord (hgl : T.gl 0 = .ad 8 recT 0 0) (h1 : T.sp n_label_Check = some sp_Check) (h2 : T.sp n_wire_txn = some sp_wtxn) (h3 : T.sp n_wire_key = some sp_key) (h4 : T.sp n_wire_value = some sp_value) (h5 : T.sp n_wire_ask = some sp_ask) : Verified T ir_wire_CheckRecord sp_CheckRecord := by
  refine Verified.mk ?_
  rintro ds ⟨x, ⟨kind, site, n, key, value, ask, yes, sites⟩, rfl, hx, hlen⟩
  obtain ⟨S, ls, p, rfl⟩ := isCfg_cfgD hx
  simp only [sp_CheckRecord, cfgOf_cfgD, recOf_recD]
  simp only at hlen
  generalize hc : chkR S ls p ⟨kind, site, n, key, value, ask, yes, sites⟩ = r
  have e1 : check S ls p ≠ 0 → r = check S ls p := fun q => by rw [← hc, chkR, if_pos q]
  by_cases hk : kind < 1 ∨ 6 < kind
  · have e2 : check S ls p = 0 → r = 3 := fun q => by rw [← hc, chkR, if_neg (by simp [q]), if_pos hk]
    have hk2 : 1 ≤ kind → 6 < kind := fun q => by omega
    clear hc
    simp (implicitDefEqProofs := false) (maxSteps := 10000000) [ir_wire_CheckRecord, h1, h2, h3, h4, h5, hgl, sp_Check, cfgD, isCfg, isLb_lbc, cfgOf, lbL_lbc, recD, recC]
    exact ⟨fun q => (e1 q).symm, fun q => ⟨fun _ => (e2 q).symm, fun x y => absurd (hk2 x) (by omega)⟩⟩
  · have e2 : check S ls p = 0 → ¬ okNums S ⟨kind, site, n, key, value, ask, yes, sites⟩ → r = 2 := fun q q2 => by rw [← hc, chkR, if_neg (by simp [q]), if_neg hk, if_pos q2]
    have e3 : check S ls p = 0 → okNums S ⟨kind, site, n, key, value, ask, yes, sites⟩ → ¬ okUpto S sites sites.length → r = 2 := fun q q2 q3 => by rw [← hc, chkR, if_neg (by simp [q]), if_neg hk, if_neg (by simp [q2]), if_pos q3]
    have e4 : check S ls p = 0 → okNums S ⟨kind, site, n, key, value, ask, yes, sites⟩ → okUpto S sites sites.length → ¬ okFormR ⟨kind, site, n, key, value, ask, yes, sites⟩ → r = 4 := fun q q2 q3 q4 => by rw [← hc, chkR, if_neg (by simp [q]), if_neg hk, if_neg (by simp [q2]), if_neg (by simp [q3]), if_pos q4]
    have e5 : check S ls p = 0 → okNums S ⟨kind, site, n, key, value, ask, yes, sites⟩ → okUpto S sites sites.length → okFormR ⟨kind, site, n, key, value, ask, yes, sites⟩ → r = 0 := fun q q2 q3 q4 => by rw [← hc, chkR, if_neg (by simp [q]), if_neg hk, if_neg (by simp [q2]), if_neg (by simp [q3]), if_neg (by simp [q4])]
    clear hc
    obtain ⟨a, b, c, d, e, f, g, h, hp⟩ := rparts_eq kind
    have hel : elem recT kind.toNat = [.bool a, .bool b, .bool c, .bool d, .bool e, .bool f, .bool g, .bool h] := by
      rw [elem_rparts (by omega) (by omega), hp]; rfl
    have hk1 : ¬ kind < 1 := by omega
    have hk2 : ¬ 6 < kind := by omega
    have hlenT : recT.length = 7 := rfl
    simp (implicitDefEqProofs := false) (maxSteps := 10000000) [ir_wire_CheckRecord, h1, h2, h3, h4, h5, hgl, hk1, hk2, sp_Check, sp_wtxn, sp_key, sp_value, sp_ask, cfgD, isCfg, isLb_lbc, cfgOf, lbL_lbc, recD, recC]
    simp only [okNums] at e2 e3 e4 e5
    refine ⟨fun q => (e1 q).symm, fun q => ⟨fun q2 => (e2 q (by
      rintro ⟨a1, a2, a3, a4⟩
      simp only [a1, a2, a3, a4, Bool.true_eq_false, or_false] at q2)).symm, fun p1 p2 p3 p4 => ?_⟩⟩
    have hj1 : ∀ j : Nat, ((j : Int) + 1 - 1) = j := fun j => by omega
    refine k_loop (ι := {j : Nat // j ≤ sites.length ∧ okUpto S sites j}) (fun x => ⟨mkTm 128 0 [(2, .own 2 0), (3, .own 3 0), (46, .fz 1 (sites.map ic)), (47, .int .i64 sites.length), (48, .int .i64 x.1)], [(2, .box [.int .i64 S, .fz 2 (ls.map lbc), .int .i64 p]), (3, .box [.int .i64 kind, .int .i64 site, .int .i64 n, .int .i64 key, .int .i64 value, .int .i64 ask, .bool yes, .fz 1 (sites.map ic)])]⟩)
      (fun x => sites.length - x.1) [] ⟨0, by omega, fun i hi => by omega⟩ (by simp) ?_
    rintro ⟨j, hj, hinv⟩ P hP
    by_cases hjl : j = sites.length
    · subst hjl
      replace e4 := e4 q ⟨p1, p2, p3, p4⟩ hinv
      replace e5 := e5 q ⟨p1, p2, p3, p4⟩ hinv
      simp only [okFormR, rp, hp] at e4 e5
      simp only [List.getD_cons_zero, List.getD_cons_succ] at e4 e5
      simp (implicitDefEqProofs := false) (maxSteps := 10000000) [ir_wire_CheckRecord_b0, ir_wire_CheckRecord_r1, ir_wire_CheckRecord, hgl, hel, hlenT, hk1, hk2]
      have hs0 : (sites = []) ↔ sites.length = 0 := by simp
      have hs1 : (0 < sites.length) ↔ ¬ sites.length = 0 := by omega
      rw [hs0, hs1]
      refine ⟨by omega, by omega, ?_⟩
      generalize (key = 0) = K at e4 e5 ⊢
      generalize (value = 0) = V at e4 e5 ⊢
      generalize (ask = 0) = A at e4 e5 ⊢
      generalize (sites.length = 0) = L at e4 e5 ⊢
      clear hP hinv e1 e2 e3 hel hp hgl h1 h2 h3 h4 h5 hx hk hk1 hk2 hlenT p1 p2 p3 p4 q hs0 hs1 hj hlen hj1
      repeat' (first | (intro _) | (apply And.intro))
      all_goals first | assumption | grind
    · have hjl' : (j : Int) < sites.length := by omega
      have hlt : j < sites.length := by omega
      have hel2 := elem_map ic sites j hlt
      have hgd : sites.getD j 0 = sites[j] := by simp [List.getD, hlt]
      have hsucc := okUpto_succ (S := S) (l := sites) (j := j)
      have hbad : ¬ (0 ≤ sites.getD j 0 ∧ sites.getD j 0 < S ∧ (0 < j → sites.getD (j - 1) 0 < sites.getD j 0)) → r = 2 := fun hb => e3 q ⟨p1, p2, p3, p4⟩ fun hall => hb (hall j hlt)
      rw [hgd] at hsucc hbad
      generalize sites[j] = v at hel2 hsucc hbad
      cases j with
      | zero =>
        simp (implicitDefEqProofs := false) (maxSteps := 10000000) [ir_wire_CheckRecord_b0, ir_wire_CheckRecord, hlt, hel2, ic]
        refine ⟨fun h => (hbad (by omega)).symm, fun v1 v2 => ⟨by simp only [inR]; omega, ?_⟩⟩
        refine hP _ [] ⟨1, by omega, hsucc.2 ⟨hinv, v1, v2, fun h => by omega⟩⟩ ?_ (by simp only; omega)
        simp
      | succ j =>
        have hlt3 : j < sites.length := by omega
        have hel3 := elem_map ic sites j hlt3
        have hgd3 : sites.getD (j + 1 - 1) 0 = sites[j] := by simp [List.getD, hlt3]
        rw [hgd3] at hsucc hbad
        generalize sites[j] = u at hel3 hsucc hbad
        have hjs : (j : Int) + 1 < sites.length := by omega
        simp (implicitDefEqProofs := false) (maxSteps := 10000000) [ir_wire_CheckRecord_b0, ir_wire_CheckRecord, hlt, hjs, hel2, hel3, hj1, ic]
        refine ⟨by omega, fun v1 v2 => ⟨⟨v1, v2⟩, by simp only [inR]; omega⟩, fun v1 v2 => ⟨⟨v1, v2⟩, hlt3⟩, fun h => (hbad (by omega)).symm, fun v1 v2 v3 => ⟨by simp only [inR]; omega, ?_⟩⟩
        refine hP _ [] ⟨j + 1 + 1, by omega, hsucc.2 ⟨hinv, v1, v2, fun _ => v3⟩⟩ ?_ (by simp only; omega)
        simp
end
end Go.Proofs.YtpkabalijooeaaaDoor
