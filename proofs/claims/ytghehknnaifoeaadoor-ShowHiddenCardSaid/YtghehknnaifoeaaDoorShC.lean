/-
  label.Check, label.Above and two configurations. Conditions: those of its specification's 'pre', and that the functions that are called are what theirs say.
-/
import Derived.Test.YtghehknnaifoeaaDoorStZ
set_option linter.unusedVariables false
set_option linter.unusedSimpArgs false
namespace Go.Proofs.YtghehknnaifoeaaDoor
open Go Go.Vcg

def lb (p : Int × Int) : D := .agg [.int .i64 p.1, .int .i64 p.2]
def lbOf : D → Int × Int
  | .agg [.int _ a, .int _ b] => (a, b)
  | _ => (0, 0)
def lbc (p : Int × Int) : List D := [.int .i64 p.1, .int .i64 p.2]
def cfgD (s : Int) (ls : List (Int × Int)) (p : Int) : D := .agg [.int .i64 s, .fz 2 (ls.map lbc), .int .i64 p]

def one (l : Int × Int) : Bool := decide (0 ≤ l.1) && decide (l.1 ≤ 9) && decide (0 ≤ l.2) && decide (l.2 ≤ 15)
/-- The labels behind those that were seen. -/
def chkL : List (Int × Int) → List (Int × Int) → Int
  | _, [] => 0
  | pre, l :: r => if one l = false then 2 else if l ∈ pre then 7 else chkL (pre ++ [l]) r
def check (s : Int) (ls : List (Int × Int)) (p : Int) : Int :=
  if s < 1 ∨ 4 < s then 2 else if ls.length < 1 ∨ 6 < ls.length then 1 else
  if chkL [] ls = 0 then (if p < 1 ∨ 1048576 < p then 2 else 0) else chkL [] ls

def sp_one : Sp := { pre := fun ds => ∃ a, ds = [lb a], F := fun | [x] => .bool (one (lbOf x)) | _ => .any }
def lbL (e : List D) : Int × Int := lbOf (.agg e)
theorem lbL_lbc : lbL ∘ lbc = id := rfl
def cfgOf : D → Int × List (Int × Int) × Int
  | .agg [.int _ s, .fz _ es, .int _ p] => (s, es.map lbL, p)
  | _ => (0, [], 0)
def isLb : List D → Bool
  | [.int .i64 _, .int .i64 _] => true
  | _ => false
theorem isLb_lbc : isLb ∘ lbc = fun _ => true := rfl
def isCfg : D → Bool
  | .agg [.int .i64 s, .fz 2 es, .int .i64 p] => es.all isLb
  | _ => false
theorem isLb_map : ∀ {es : List (List D)}, es.all isLb = true → es = (es.map lbL).map lbc
  | [], _ => rfl
  | e :: es, h => by
    simp only [List.all_cons, Bool.and_eq_true] at h
    simp only [List.map_cons]
    rw [← isLb_map h.2]
    have he := h.1
    unfold isLb at he
    split at he
    · rfl
    · cases he
theorem isCfg_cfgD {x : D} (h : isCfg x = true) : ∃ s ls p, x = cfgD s ls p := by
  unfold isCfg at h
  split at h
  · rename_i s es p
    exact ⟨s, es.map lbL, p, by rw [cfgD, ← isLb_map h]⟩
  · cases h
def sp_Check : Sp := { pre := fun ds => ∃ x, ds = [x] ∧ isCfg x = true, F := fun | [x] => .int .i64 (check (cfgOf x).1 (cfgOf x).2.1 (cfgOf x).2.2) | _ => .any }

theorem cfgOf_cfgD (s : Int) (ls : List (Int × Int)) (p : Int) : cfgOf (cfgD s ls p) = (s, ls, p) := by
  simp [cfgOf, cfgD, lbL_lbc]

theorem mem_snoc_dec (A : List (Int × Int)) (x l : Int × Int) : (decide (l ∈ A) || (x.1 == l.1 && x.2 == l.2)) = decide (l ∈ A ++ [x]) := by
  have e : (x.1 == l.1 && x.2 == l.2) = decide (l = x) := by
    rw [Bool.eq_iff_iff]
    simp only [Bool.and_eq_true, beq_iff_eq, decide_eq_true_eq, Prod.ext_iff]
    exact ⟨fun h => ⟨h.1.symm, h.2.symm⟩, fun h => ⟨h.1.symm, h.2.symm⟩⟩
  rw [e]
  by_cases q : l ∈ A <;> simp [q]

def sp_Above2 : Sp := { pre := fun ds => ∃ p q : Int, ds = [.agg [.int .i64 p, .int .i64 0], .agg [.int .i64 q, .int .i64 0]], F := fun | [.agg [.int _ p, _], .agg [.int _ q, _]] => .bool (decide (q ≤ p)) | _ => .any }
theorem above2_F (p q : Int) : sp_Above2.F [.agg [.int .i64 p, .int .i64 0], .agg [.int .i64 q, .int .i64 0]] = .bool (decide (q ≤ p)) := rfl
theorem above2_pre (p q : Int) : sp_Above2.pre [.agg [.int .i64 p, .int .i64 0], .agg [.int .i64 q, .int .i64 0]] = True := by
  simp only [sp_Above2, eq_iff_iff, iff_true]; exact ⟨p, q, rfl⟩
def sp_two : Sp := { pre := fun ds => ∃ s : Int, ds = [.int .i64 s] ∧ inR .i64 s, F := fun | [.int _ s] => cfgD (1 + pk s 3) [(0, 0), (1, 0)] 3 | _ => .any }
def sp_lone : Sp := { pre := fun ds => ds = [], F := fun _ => cfgD 1 [(0, 0)] 3 }
section
variable {T : Tb}
attribute [local simp] k_seq k_block k_skip k_reg k_alt k_cond k_exit k_ret kf_nil kf_seq_n kf_seq_e kf_seq_r kf_blk_n kf_blk_e kf_blk_r kf_lp_n kf_lp_e kf_lp_r kf_cut_n kf_cut_e kf_cut_r mkTm VCops VCalt istep act gd applyE wrapD Opd.ev get_mk set_mk set_mk0 tget16 tset16 tget_0 tset_0 tget_1 tset_1 tget_2 tset_2 tget_3 tset_3 tget_4 tset_4 tget_5 tset_5 tget_6 tset_6 tget_7 tset_7 tget_8 tset_8 tget_9 tset_9 tget_10 tset_10 tget_11 tset_11 tget_12 tset_12 tget_13 tset_13 tget_14 tset_14 tget_15 tset_15 D.un D.gu gus IOp.opds binD fnPost getRes IRes.get oneRes D.out outL D.clos closL D.norow norowL D.lv lvL D.scal scalL D.cells D.cell D.cell' St.lk obPut obDel List.lookup cut pickD splice fillParts fillRows elem_cons newsOf D.pl D.forget forgetL Ob.forget forgetO eqCells sg leD leDL leOb apartK St.le D.keys keysL D.rows rowsL obKeys addKeys reach pos D.ren renL Ob.ren inM outM inObs outObs goneK apartN okNames_eq okNms obNms namesOK_nil namesOK_cons freeOK_nil freeOK_cons D.frz frzL Ob.frz frzO St.frz forgetLs dropObs putObs hcall freeOf keeps baseN shD isShift shMax k_bad VCopsG frz_nil actx actc cnum vwCut St.frzT St.opnT St.clsT D.opn opnL Ob.opn opnO VCou VCcx St.oneS D.objI D.objK scrL D.scr St.opnS St.clsS D.cellS D.fzs fzsL k_mrk k_mrq IOper.gh
theorem v_one : Verified T ir_label_one sp_one := by
  refine Verified.mk ?_
  rintro ds ⟨⟨a, b⟩, rfl⟩
  simp [ir_label_one, sp_one, lb, lbOf, one]
  rfl

theorem v_Check (h1 : T.sp n_label_one = some sp_one) : Verified T ir_label_Check sp_Check := by
  refine Verified.mk ?_
  rintro ds ⟨x, rfl, hx⟩
  obtain ⟨s, ls, p, rfl⟩ := isCfg_cfgD hx
  simp only [sp_Check, cfgOf_cfgD]
  simp [ir_label_Check, h1, cfgD]
  refine ⟨fun h => by simp [check, h], fun h1' h2' => ⟨fun h => ?_, fun h3 h4 => ?_⟩⟩
  · rw [check, if_neg (by omega), if_pos (by omega)]
  refine k_loop (ι := {i : Nat // i ≤ ls.length ∧ chkL (ls.take i) (ls.drop i) = chkL [] ls}) (fun x => ⟨mkTm 58 0 [(1, .own 1 0), (26, .fz 2 (ls.map lbc)), (27, .int .i64 ls.length), (28, .int .i64 x.1)], [(1, .box [.int .i64 s, .fz 2 (ls.map lbc), .int .i64 p])]⟩)
    (fun x => ls.length - x.1) [] ⟨0, by simp⟩ (by simp) ?_
  rintro ⟨i, hi, hinv⟩ P hP
  rcases Nat.lt_or_ge i ls.length with h | h
  · have hd : ls.drop i = ls[i] :: ls.drop (i + 1) := List.drop_eq_getElem_cons h
    rw [hd, chkL] at hinv
    have hch : one ls[i] = false → check s ls p = 2 := fun ho => by
      rw [if_pos ho] at hinv
      rw [check, if_neg (by omega), if_neg (by omega), if_neg (by omega), hinv]
    simp [ir_label_Check_b2, h, h1, elem_map, lbc, sp_one, lb, lbOf]
    refine ⟨fun ho => (hch ho).symm, fun ho => ⟨hi, ?_⟩⟩
    rw [if_neg (by simp [ho])] at hinv
    have hch7 : ls[i] ∈ ls.take i → check s ls p = 7 := fun hm => by
      rw [if_pos hm] at hinv
      rw [check, if_neg (by omega), if_neg (by omega), if_neg (by omega), hinv]
    have htk : (ls.take (i + 1)) = ls.take i ++ [ls[i]] := (List.take_append_getElem h).symm
    rw [Nat.min_eq_left hi, ← List.map_take]
    rw [← htk] at hinv
    have hpl : (ls.take i).length = i := by simp; omega
    generalize ls.take i = pre at hch7 hpl hinv htk ⊢
    generalize ls[i] = l at hch7 htk ho hinv ⊢
    refine k_loop (ι := {j : Nat // j ≤ i ∧ l ∉ pre.take j}) (fun x => ⟨mkTm 58 0 [(1, .own 1 0), (4, .own 4 0), (26, .fz 2 (ls.map lbc)), (27, .int .i64 ls.length), (28, .int .i64 i), (39, .fz 2 (pre.map lbc)), (40, .int .i64 i), (41, .int .i64 x.1)], [(1, .box [.int .i64 s, .fz 2 (ls.map lbc), .int .i64 p]), (4, .box (lbc l))]⟩)
      (fun x => i - x.1) [] ⟨0, by simp⟩ (by simp [lbc]) ?_
    rintro ⟨j, hj, hnm⟩ P' hP'
    rcases Nat.lt_or_ge j i with g | g
    · have hjl : j < pre.length := by omega
      have hd' : pre.take (j + 1) = pre.take j ++ [pre[j]] := (List.take_append_getElem hjl).symm
      simp [ir_label_Check_b0, g, hjl, elem_map, lbc, lbOf]
      have key : ∀ q : pre[j] = l, l ∈ pre := fun q => q ▸ List.getElem_mem hjl
      refine ⟨fun e1 e2 => (hch7 (key (Prod.ext e1 e2))).symm, fun hne => ⟨by simp only [inR]; omega, hP' _ [] ⟨j + 1, by omega, ?_⟩ (by simp [lbc]) (by simp; omega)⟩⟩
      rw [hd', List.mem_append]
      rintro (q | q)
      · exact hnm q
      · simp only [List.mem_singleton] at q
        exact hne (by rw [← q]) (by rw [← q])
    · simp [ir_label_Check_b0, ir_label_Check_r1, Nat.not_lt.2 g]
      refine ⟨by simp only [inR]; omega, hP _ [] ⟨i + 1, by omega, ?_⟩ (by simp) (by simp; omega)⟩
      rw [List.take_of_length_le (by omega)] at hnm
      rw [if_neg hnm] at hinv
      exact hinv
  · simp [ir_label_Check_b2, ir_label_Check_r3, Nat.not_lt.2 h]
    have hz : chkL [] ls = 0 := by rw [← hinv, List.drop_eq_nil_of_le h, chkL]
    have hc : check s ls p = if p < 1 ∨ 1048576 < p then 2 else 0 := by
      rw [check, if_neg (by omega), if_neg (by omega), if_pos hz]
    rw [hc]
    exact ⟨fun q => by rw [if_pos q], fun q1 q2 => by rw [if_neg (by omega)]⟩
theorem v_Above2 : Verified T ir_label_Above sp_Above2 := by
  refine Verified.mk ?_
  rintro ds ⟨p, q, rfl⟩
  rw [above2_F]
  simp (implicitDefEqProofs := false) (maxSteps := 10000000) [ir_label_Above]
  exact fun _ => by decide
set_option maxRecDepth 100000 in
set_option maxHeartbeats 4000000 in
theorem v_two (h1 : T.sp n_reredoskeep_picked = some sp_picked) : Verified T ir_reredoskeep_two sp_two := by
  refine Verified.mk ?_
  rintro ds ⟨s, rfl, hs⟩
  have b := pk_bounds s 3 (by decide)
  simp (implicitDefEqProofs := false) [ir_reredoskeep_two, h1, sp_picked, sp_two, cfgD, lbc, hs]
  exact ⟨⟨s, 3, ⟨rfl, rfl⟩, hs, by decide⟩, by simp only [inR]; omega⟩
theorem v_lone : Verified T ir_reredoskeep_lone sp_lone := by
  refine Verified.mk ?_
  rintro ds rfl
  simp (implicitDefEqProofs := false) [ir_reredoskeep_lone, sp_lone, cfgD, lbc]
end
end Go.Proofs.YtghehknnaifoeaaDoor
