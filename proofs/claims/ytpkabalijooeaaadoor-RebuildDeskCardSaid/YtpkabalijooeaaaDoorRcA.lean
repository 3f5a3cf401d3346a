/-
  Jobs of a desk: search, insert and delete. Conditions: those of each specification's 'pre', and that the functions that are called are what theirs say. (Printed by program.)
-/
import Derived.Test.YtpkabalijooeaaaDoorRbA
set_option linter.unusedVariables false
set_option linter.unusedSimpArgs false
namespace Go.Proofs.YtpkabalijooeaaaDoor
open Go Go.Vcg

structure Tk where
  (wr : Bool) (label key value version ask : Int) (done sure : Bool)
  deriving DecidableEq
def tkC (t : Tk) : List D := [.bool t.wr, .int .i64 t.label, .int .i64 t.key, .int .i64 t.value, .int .i64 t.version, .int .i64 t.ask, .bool t.done, .bool t.sure]
def tkOf : List D → Tk
  | [.bool w, .int _ l, .int _ k, .int _ v, .int _ n, .int _ q, .bool d, .bool s] => ⟨w, l, k, v, n, q, d, s⟩
  | _ => ⟨false, 0, 0, 0, 0, 0, false, false⟩
structure Jb where
  (n state : Int) (tasks : List Tk) (asked : List Int) (asks age : Int)
  deriving DecidableEq
def jbC (j : Jb) : List D := [.int .i64 j.n, .int .i64 j.state, .fz 8 (j.tasks.map tkC), .fz 1 (j.asked.map ic), .int .i64 j.asks, .int .i64 j.age]
def jbOf : List D → Jb
  | [.int _ n, .int _ s, .fz _ t, .fz _ a, .int _ g, .int _ q] => ⟨n, s, lsOf tkOf (.fz 8 t), intsOf (.fz 1 a), g, q⟩
  | _ => ⟨0, 0, [], [], 0, 0⟩
theorem tkOf_tkC (t : Tk) : tkOf (tkC t) = t := rfl
theorem tks_of (l : List Tk) : lsOf tkOf (.fz 8 (l.map tkC)) = l := lsOf_map tkOf_tkC 8 l
theorem jbOf_jbC (j : Jb) : jbOf (jbC j) = j := by
  obtain ⟨a, b, c, d, e, f⟩ := j
  have h : intsOf (.fz 1 (d.map ic)) = d := intsOf_intsD d
  simp only [jbOf, jbC, tks_of, h]
theorem jbs_of (l : List Jb) : lsOf jbOf (.fz 6 (l.map jbC)) = l := lsOf_map jbOf_jbC 6 l
def jb0 : Jb := ⟨0, 0, [], [], 0, 0⟩

/-! ### Insert -/
def insJ (l : List Jb) (i : Nat) (x : Jb) : List Jb := l.take i ++ [x] ++ l.drop i
def hs_InsJ : HSp := {
  pre := fun ds ob => ∃ (l : List Jb) (i : Nat) (x : Jb), ds = [.row 1000000000, .int .i64 i, .row 1000000001] ∧ ob = [(1000000000, .row 6 (l.map jbC)), (1000000001, .row 6 [jbC x])] ∧ i ≤ l.length ∧ l.length ≤ 100000
  F := fun ds ob => match ds, ob with
    | [_, .int _ i, _], [(_, .row _ es), (_, .row _ xs)] => (.row 0, [(0, .row 6 (es.take i.toNat ++ xs ++ es.drop i.toNat))])
    | _, _ => (.any, []) }
def sp_InsJ : Sp := { pre := fun _ => True, F := fun _ => .any, hx := some hs_InsJ }
theorem InsJ_pre {l : List Jb} {i : Nat} {x : Jb} (hi : i ≤ l.length) (hl : l.length ≤ 100000) : hs_InsJ.pre [.row 1000000000, .int .i64 i, .row 1000000001] [(1000000000, .row 6 (l.map jbC)), (1000000001, .row 6 [jbC x])] = True := by
  simp only [hs_InsJ, eq_iff_iff, iff_true]; exact ⟨l, i, x, rfl, rfl, hi, hl⟩
theorem InsJ_F (l : List Jb) (i : Nat) (x : Jb) : hs_InsJ.F [.row 1000000000, .int .i64 i, .row 1000000001] [(1000000000, .row 6 (l.map jbC)), (1000000001, .row 6 [jbC x])] = (.row 0, [(0, .row 6 ((insJ l i x).map jbC))]) := by
  simp [hs_InsJ, insJ]

theorem all_jbC (l : List Jb) : (l.map jbC).all (fun e => e.all D.cell) = true := by
  rw [List.all_eq_true]
  intro e he
  obtain ⟨x, _, rfl⟩ := List.mem_map.1 he
  rfl
theorem insJ_all1 {l : List Jb} {i m : Nat} (h : i ≤ l.length) : ((l.map jbC ++ List.replicate m [D.any, D.any, D.any, D.any, D.any, D.any]).take i).all (fun e => e.all D.cell) = true := by
  rw [List.take_append_of_le_length (by simpa using h), ← List.map_take]
  exact all_jbC _
theorem insJ_all2 {l : List Jb} {i m x : Nat} (h : i ≤ l.length) : (((l.map jbC ++ List.replicate m [D.any, D.any, D.any, D.any, D.any, D.any]).drop i).take (min (l.length - i) x)).all (fun e => e.all D.cell) = true := by
  rw [List.drop_append_of_le_length (by simpa using h), List.take_append_of_le_length (by simp; omega), ← List.map_drop, ← List.map_take]
  exact all_jbC _

section
variable {T : Tb}
attribute [local simp] k_seq k_block k_skip k_reg k_alt k_cond k_exit k_ret kf_nil kf_seq_n kf_seq_e kf_seq_r kf_blk_n kf_blk_e kf_blk_r kf_lp_n kf_lp_e kf_lp_r kf_cut_n kf_cut_e kf_cut_r mkTm VCops VCalt istep act gd applyE wrapD Opd.ev get_mk set_mk set_mk0 tget16 tset16 tget_0 tset_0 tget_1 tset_1 tget_2 tset_2 tget_3 tset_3 tget_4 tset_4 tget_5 tset_5 tget_6 tset_6 tget_7 tset_7 tget_8 tset_8 tget_9 tset_9 tget_10 tset_10 tget_11 tset_11 tget_12 tset_12 tget_13 tset_13 tget_14 tset_14 tget_15 tset_15 D.un D.gu gus IOp.opds binD fnPost getRes IRes.get oneRes D.out outL D.clos closL D.norow norowL D.lv lvL D.scal scalL D.cells D.cell D.cell' St.lk obPut obDel List.lookup cut pickD splice fillParts fillRows elem_cons newsOf D.pl D.forget forgetL Ob.forget forgetO eqCells sg leD leDL leOb apartK St.le D.keys keysL D.rows rowsL obKeys addKeys reach pos D.ren renL Ob.ren inM outM inObs outObs goneK apartN okNames_eq okNms obNms namesOK_nil namesOK_cons freeOK_nil freeOK_cons D.frz frzL Ob.frz frzO St.frz forgetLs dropObs putObs hcall freeOf keeps baseN shD isShift shMax k_bad VCopsG frz_nil actx actc cnum vwCut St.frzT St.opnT St.clsT D.opn opnL Ob.opn opnO
set_option maxRecDepth 100000 in
set_option maxHeartbeats 8000000 in
theorem v_InsJ : Verified T ir_slices_Insert_reredos_api_Job_reredos_api_Job sp_InsJ := by
  refine Verified.mkx rfl ?_
  rintro ds ob ⟨l, i, x, rfl, rfl, hi, hl⟩ R hR
  rw [InsJ_F] at hR
  by_cases he : i = l.length
  · subst he
    have hins : insJ l l.length x = l ++ [x] := by simp [insJ]
    rw [hins] at hR
    obtain ⟨x1, x2, x3, x4, x5, x6⟩ := x
    simp only [jbC, List.map_append, List.map_cons, List.map_nil] at hR
    simp (implicitDefEqProofs := false) (maxSteps := 10000000) [ir_slices_Insert_reredos_api_Job_reredos_api_Job, jbC]
    refine ⟨by omega, hR _ [(0, some 25)] ?_⟩
    simp
  · have hne : ¬ (i : Int) = l.length := by omega
    have hnn : l.map jbC ≠ [] := by
      intro h
      rw [List.map_eq_nil_iff] at h
      subst h
      simp at hi he
      omega
    obtain ⟨x1, x2, x3, x4, x5, x6⟩ := x
    have hfin : (insJ l i ⟨x1, x2, x3, x4, x5, x6⟩).map jbC = (l.map jbC).take i ++ [[.int .i64 x1, .int .i64 x2, .fz 8 (x3.map tkC), .fz 1 (x4.map ic), .int .i64 x5, .int .i64 x6]] ++ (l.map jbC).drop i := by
      simp [insJ, jbC, List.map_take, List.map_drop]
    rw [hfin] at hR
    simp only [jbC] at hR
    have hli : ((l.map jbC).take i).length = i := by simp; omega
    have hld : ((l.map jbC).drop i).length = l.length - i := by simp
    have k1 : ((l.map jbC).take i).all (fun e => e.all D.cell) = true := by rw [← List.map_take]; exact all_jbC _
    have k2 : ((l.map jbC).drop i).all (fun e => e.all D.cell) = true := by rw [← List.map_drop]; exact all_jbC _
    have k3 : ∀ m : Nat, l.length - i ≤ l.length + m - i := by intros; omega
    have k4 : ∀ m : Nat, i + (l.length - i) ≤ l.length + m := by intros; omega
    have m1 : ∀ m : Nat, min i (l.length + m) = i := by intros; omega
    have m5 : min i l.length = i := by omega
    have m2 : i + (l.length + 1 - i) = l.length + 1 := by omega
    have m3 : min (l.length + 1 - i) (l.length - i) = l.length - i := by omega
    have m4 : ∀ x : List D, List.take (l.length + 1 - i) [x] = [x] := by intro x; exact List.take_of_length_le (by simp; omega)
    have t1 : ∀ m : Nat, (l.map jbC ++ List.replicate m [D.any, D.any, D.any, D.any, D.any, D.any]).take i = (l.map jbC).take i := fun m => List.take_append_of_le_length (by simpa using hi)
    have t2 : ∀ m : Nat, ((l.map jbC ++ List.replicate m [D.any, D.any, D.any, D.any, D.any, D.any]).drop i).take (l.length - i) = (l.map jbC).drop i := by
      intro m
      rw [List.drop_append_of_le_length (by simpa using hi), ← hld, List.take_left]
    have t3 : ((l.map jbC).drop i).take (l.length - i) = (l.map jbC).drop i := List.take_of_length_le (by rw [hld]; omega)
    have f1 : ∀ (R : List (List D)) (x : List D), l.length - i + 1 ≤ R.length → (over (over ((l.map jbC).take i ++ R) i [x]) (i + 1) ((l.map jbC).drop i)).take (l.length + 1) = (l.map jbC).take i ++ [x] ++ (l.map jbC).drop i :=
      fun R x h => ins_fresh hli (by rw [hld]; omega) (by rw [hld]; exact h)
    have f2 : ∀ (m : Nat) (x : List D), 1 ≤ m → (over (over (l.map jbC ++ List.replicate m [D.any, D.any, D.any, D.any, D.any, D.any]) (i + 1) ((l.map jbC).drop i)) i [x]).take (l.length + 1) = (l.map jbC).take i ++ [x] ++ (l.map jbC).drop i := by
      intro m x h
      have e : l.map jbC ++ List.replicate m [D.any, D.any, D.any, D.any, D.any, D.any] = (l.map jbC).take i ++ ((l.map jbC).drop i ++ List.replicate m [D.any, D.any, D.any, D.any, D.any, D.any]) := by rw [← List.append_assoc, List.take_append_drop]
      rw [e]
      exact ins_place hli (by rw [hld]; omega) (by simp; omega)
    have f1' : ∀ (m : Nat) (y z : List D) (x : List D), (over (over ((l.map jbC).take i ++ (List.replicate (l.length + 1 - i) z ++ List.replicate m y)) i [x]) (i + 1) ((l.map jbC).drop i)).take (l.length + 1) = (l.map jbC).take i ++ [x] ++ (l.map jbC).drop i :=
      fun m y z x => f1 _ x (by simp; omega)
    have g0 : ∀ (m : Nat) (y z : List D), ((l.map jbC).take i ++ (List.replicate (l.length + 1 - i) z ++ List.replicate m y)).length = l.length + 1 + m := by intros; rw [List.length_append, hli]; simp; omega
    have g1 : ∀ (m : Nat) (y z x : List D), (over ((l.map jbC).take i ++ (List.replicate (l.length + 1 - i) z ++ List.replicate m y)) i [x]).length = l.length + 1 + m := by
      intro m y z x
      rw [length_over (by rw [g0]; simp; omega), g0]
    have g2 : ∀ (m : Nat) (y z x : List D), (over (over ((l.map jbC).take i ++ (List.replicate (l.length + 1 - i) z ++ List.replicate m y)) i [x]) (i + 1) ((l.map jbC).drop i)).length = l.length + 1 + m := by
      intro m y z x
      rw [length_over (by rw [g1, hld]; omega), g1]
    simp (implicitDefEqProofs := false) (maxSteps := 10000000) [ir_slices_Insert_reredos_api_Job_reredos_api_Job, hne, hnn, k1, k2, k3, k4, m1, m2, m3, m4, m5, t1, t2, t3, f1', g1, g2, jbC]
    have l0 : ∀ m : Nat, (l.map jbC ++ List.replicate m [D.any, D.any, D.any, D.any, D.any, D.any]).length = l.length + m := by intros; simp
    have l1 : ∀ m : Nat, 1 ≤ m → (over (l.map jbC ++ List.replicate m [D.any, D.any, D.any, D.any, D.any, D.any]) (i + 1) ((l.map jbC).drop i)).length = l.length + m := by
      intro m h
      rw [length_over (by rw [l0, hld]; omega), l0]
    have l2 : ∀ (m : Nat) (x : List D), 1 ≤ m → (over (over (l.map jbC ++ List.replicate m [D.any, D.any, D.any, D.any, D.any, D.any]) (i + 1) ((l.map jbC).drop i)) i [x]).length = l.length + m := by
      intro m x h
      rw [length_over (by rw [l1 m h]; simp; omega), l1 m h]
    have ac : ((List.take i (l.map jbC) ++ [[D.int .i64 x1, D.int .i64 x2, D.fz 8 (List.map tkC x3), D.fz 1 (List.map ic x4), D.int .i64 x5, D.int .i64 x6]] ++ List.drop i (l.map jbC)).all fun e => e.all D.cell) = true := by
      simp only [List.all_append, k1, k2, Bool.and_true, Bool.true_and]
      rfl
    refine ⟨hi, fun m hm => ⟨by simp only [inR]; omega, fun hz => ?_, fun hz => ?_⟩⟩
    · obtain rfl : m = 0 := by omega
      refine ⟨by omega, by simp only [inR]; omega, by simp only [inR]; omega, by omega, by omega, fun m' hm' => ?_⟩
      refine ⟨by omega, by omega, by simp only [inR]; omega, by omega, by omega, by omega, hR _ [(0, some 55)] ?_⟩
      simp
    · have hz' : 1 ≤ m := by omega
      rw [l1 m hz', l2 m _ hz', f2 m _ hz']
      refine ⟨by simp only [inR]; omega, by omega, by simp only [inR]; omega, by omega, by omega, by simp only [inR]; omega, by omega, by omega, by omega, by omega, by omega, ⟨by omega, rfl, ?_⟩, hR _ [(0, some 83)] ?_⟩
      · intro e he c hc
        exact List.all_eq_true.1 (List.all_eq_true.1 ac e he) c hc
      · simp
end
/-! ### Search -/
/-- The keys go up. -/
def sortJ (l : List Jb) : Prop := ∀ i j (hi : i < l.length) (hj : j < l.length), i < j → l[i].n < l[j].n
def posJ (l : List Jb) (k : Int) : Nat := l.findIdx fun x => decide (k ≤ x.n)
def hasJ (l : List Jb) (k : Int) : Bool := l.any fun x => decide (x.n = k)
def sp_BinJ : Sp := { pre := fun ds => ∃ (l : List Jb) (k : Int), ds = [.fz 6 (l.map jbC), .int .i64 k, .clo n_recover_memory_committed_1 []] ∧ sortJ l ∧ l.length ≤ 100000 ∧ (∀ x ∈ l, 0 ≤ x.n ∧ x.n ≤ 2000000) ∧ 0 ≤ k ∧ k ≤ 2000000, F := fun | [x, .int _ k, _] => .tup [.int .i64 (posJ (lsOf jbOf x) k), .bool (hasJ (lsOf jbOf x) k)] | _ => .any }
theorem posJ_eq {l : List Jb} {k : Int} {p : Nat} (hp : p ≤ l.length) (h1 : ∀ i (hi : i < l.length), i < p → l[i].n < k) (h2 : ∀ i (hi : i < l.length), p ≤ i → k ≤ l[i].n) : posJ l k = p := by
  by_cases h : p < l.length
  · exact (List.findIdx_eq h).2 ⟨by simpa using h2 p h (Nat.le_refl _), fun j hj => by
      have := h1 j (by omega) hj
      simp; omega⟩
  · have hpl : p = l.length := by omega
    subst hpl
    refine List.findIdx_eq_length.2 fun x hx => ?_
    obtain ⟨i, hi, rfl⟩ := List.getElem_of_mem hx
    have := h1 i hi hi
    simp; omega
theorem hasJ_eq {l : List Jb} {k : Int} {p : Nat} (h1 : ∀ i (hi : i < l.length), i < p → l[i].n < k) (hs : sortJ l) (hp : p < l.length) (h2 : k ≤ l[p].n) : hasJ l k = decide (l[p].n = k) := by
  by_cases h : l[p].n = k
  · rw [decide_eq_true h]
    exact List.any_eq_true.2 ⟨l[p], List.getElem_mem hp, by simpa using h⟩
  · rw [decide_eq_false h]
    rw [hasJ, Bool.eq_false_iff]
    intro hh
    obtain ⟨x, hx, hk⟩ := List.any_eq_true.1 hh
    obtain ⟨i, hi, rfl⟩ := List.getElem_of_mem hx
    have hk := of_decide_eq_true hk
    rcases Nat.lt_trichotomy i p with g | g | g
    · have := h1 i hi g; omega
    · subst g; exact h hk
    · have := hs p i hp hi g; omega
theorem hasJ_none {l : List Jb} {k : Int} (h1 : ∀ i (hi : i < l.length), l[i].n < k) : hasJ l k = false := by
  rw [hasJ, Bool.eq_false_iff]
  intro hh
  obtain ⟨x, hx, hk⟩ := List.any_eq_true.1 hh
  obtain ⟨i, hi, rfl⟩ := List.getElem_of_mem hx
  have hk := of_decide_eq_true hk
  have := h1 i hi
  omega
theorem posJ_spec {l : List Jb} (hs : sortJ l) (k : Int) : posJ l k ≤ l.length ∧ (∀ i (hi : i < l.length), i < posJ l k → l[i].n < k) ∧ (∀ i (hi : i < l.length), posJ l k ≤ i → k ≤ l[i].n) := by
  refine ⟨List.findIdx_le_length, fun i hi h => ?_, fun i hi h => ?_⟩
  · have := List.not_of_lt_findIdx h
    simp at this; omega
  · by_cases hp : posJ l k < l.length
    · have h0 : k ≤ (l[posJ l k]'hp).n := by
        exact of_decide_eq_true (List.findIdx_getElem (w := hp))
      rcases Nat.eq_or_lt_of_le h with e | e
      · simp only [← e]; exact h0
      · have := hs (posJ l k) i hp hi e; omega
    · omega
theorem hasJ_pos {l : List Jb} (hs : sortJ l) {k : Int} (h : hasJ l k = true) : ∃ hp : posJ l k < l.length, (l[posJ l k]'hp).n = k := by
  obtain ⟨p0, p1, p2⟩ := posJ_spec hs k
  by_cases hp : posJ l k < l.length
  · refine ⟨hp, ?_⟩
    rw [hasJ_eq p1 hs hp (p2 _ hp (Nat.le_refl _))] at h
    exact of_decide_eq_true h
  · rw [hasJ_none fun i hi => p1 i hi (by omega)] at h
    cases h

def sp_cmt1 : Sp := { pre := fun ds => ∃ (x : Jb) (k : Int), ds = [.agg (jbC x), .int .i64 k] ∧ 0 ≤ x.n ∧ x.n ≤ 2000000 ∧ 0 ≤ k ∧ k ≤ 2000000, F := fun | [.agg x, .int _ k] => .int .i64 ((jbOf x).n - k) | _ => .any }
section
variable {T : Tb}
attribute [local simp] k_seq k_block k_skip k_reg k_alt k_cond k_exit k_ret kf_nil kf_seq_n kf_seq_e kf_seq_r kf_blk_n kf_blk_e kf_blk_r kf_lp_n kf_lp_e kf_lp_r kf_cut_n kf_cut_e kf_cut_r mkTm VCops VCalt istep act gd applyE wrapD Opd.ev get_mk set_mk set_mk0 tget16 tset16 tget_0 tset_0 tget_1 tset_1 tget_2 tset_2 tget_3 tset_3 tget_4 tset_4 tget_5 tset_5 tget_6 tset_6 tget_7 tset_7 tget_8 tset_8 tget_9 tset_9 tget_10 tset_10 tget_11 tset_11 tget_12 tset_12 tget_13 tset_13 tget_14 tset_14 tget_15 tset_15 D.un D.gu gus IOp.opds binD fnPost getRes IRes.get oneRes D.out outL D.clos closL D.norow norowL D.lv lvL D.scal scalL D.cells D.cell D.cell' St.lk obPut obDel List.lookup cut pickD splice fillParts fillRows elem_cons newsOf D.pl D.forget forgetL Ob.forget forgetO eqCells sg leD leDL leOb apartK St.le D.keys keysL D.rows rowsL obKeys addKeys reach pos D.ren renL Ob.ren inM outM inObs outObs goneK apartN okNames_eq okNms obNms namesOK_nil namesOK_cons freeOK_nil freeOK_cons D.frz frzL Ob.frz frzO St.frz forgetLs dropObs putObs hcall freeOf keeps baseN shD isShift shMax k_bad VCopsG frz_nil actx actc cnum vwCut St.frzT St.opnT St.clsT D.opn opnL Ob.opn opnO
theorem v_cmt1 : Verified T ir_recover_memory_committed_1 sp_cmt1 := by
  refine Verified.mk ?_
  rintro ds ⟨⟨a, b, c, d, e, f⟩, k, rfl, h1, h2, h3, h4⟩
  simp only at h1 h2
  simp only [sp_cmt1, jbOf_jbC]
  simp (implicitDefEqProofs := false) [ir_recover_memory_committed_1, jbC]
  simp only [inR]; omega
set_option maxRecDepth 100000 in
set_option maxHeartbeats 4000000 in
theorem v_BinJ (h1 : T.sp n_recover_memory_committed_1 = some sp_cmt1) : Verified T ir_slices_BinarySearchFunc_reredos_api_Job_reredos_api_Job_int sp_BinJ := by
  refine Verified.mk ?_
  rintro ds ⟨l, k, rfl, hs, hl, hB, hk0, hk1⟩
  have hx : sp_cmt1.hx = none := rfl
  have hcn : cnum T n_recover_memory_committed_1 = n_recover_memory_committed_1 := by rw [cnum, h1]; rfl
  have hF : ∀ x : Jb, sp_cmt1.F [.agg (jbC x), .int .i64 k] = .int .i64 (x.n - k) := fun x => by simp only [sp_cmt1, jbOf_jbC]
  have hP : ∀ x : Jb, 0 ≤ x.n ∧ x.n ≤ 2000000 → sp_cmt1.pre [.agg (jbC x), .int .i64 k] = True := fun x h => by
    simp only [sp_cmt1, eq_iff_iff, iff_true]; exact ⟨x, k, rfl, h.1, h.2, hk0, hk1⟩
  have hlt : n_recover_memory_committed_1 < 1000000 := by decide
  simp only [sp_BinJ, jbs_of]
  generalize n_recover_memory_committed_1 = f at h1 hcn hlt
  simp (implicitDefEqProofs := false) [ir_slices_BinarySearchFunc_reredos_api_Job_reredos_api_Job_int]
  refine k_loop (ι := {x : Nat × Nat // x.1 ≤ x.2 ∧ x.2 ≤ l.length ∧ (∀ i (hi : i < l.length), i < x.1 → l[i].n < k) ∧ (∀ i (hi : i < l.length), x.2 ≤ i → k ≤ l[i].n)}) (fun x => ⟨mkTm 49 0 [(0, .fz 6 (l.map jbC)), (1, .int .i64 k), (2, .clo f []), (8, .int .i64 l.length), (9, .int .i64 x.1.1), (10, .int .i64 x.1.2)], []⟩)
    (fun x => x.1.2 - x.1.1) [] ⟨(0, l.length), by simp, by simp, fun i hi h => by simp at h, fun i hi h => by simp at h; omega⟩ (by simp (implicitDefEqProofs := false)) ?_
  rintro ⟨⟨lo, hi⟩, q1, q2, q3, q4⟩ P hQ
  simp only at q1 q2 q3 q4
  by_cases hlh : lo < hi
  · have hlh' : (lo : Int) < hi := by omega
    obtain ⟨m, hm⟩ : ∃ m : Nat, ((lo : Int) + hi) / 2 = m := ⟨(lo + hi) / 2, by omega⟩
    have hml : m < l.length := by omega
    have hel := elem_map jbC l m hml
    have hup : ∀ i (hi : i < l.length), i ≤ m → l[i].n ≤ l[m].n := fun i hi h => by
      rcases Nat.eq_or_lt_of_le h with e | e
      · subst e; omega
      · have := hs i m hi hml e; omega
    have hdn : ∀ i (hi : i < l.length), m ≤ i → l[m].n ≤ l[i].n := fun i hi h => by
      rcases Nat.eq_or_lt_of_le h with e | e
      · subst e; omega
      · have := hs m i hml hi e; omega
    have hbx := hB l[m] (List.getElem_mem hml)
    generalize l[m] = x at hel hup hdn hbx
    have hF' := hF x
    have hP' := hP x hbx
    obtain ⟨a, b, c, d, e, f⟩ := x
    simp only [jbC] at hel hup hdn hF' hP' hbx
    clear hF hP
    by_cases hc : a < k
    · have hcm : a - k < 0 := by omega
      simp (implicitDefEqProofs := false) [ir_slices_BinarySearchFunc_reredos_api_Job_reredos_api_Job_int_b0, hlh', hm, hml, hel, hlt, hcn, h1, hx, hF', hP', hcm]
      refine ⟨by simp only [inR]; omega, by simp only [inR]; omega, by simp only [inR]; omega, by simp only [inR]; omega, hQ _ [] ⟨(m + 1, hi), by simp only; omega, q2, fun i hi h => by have := hup i hi (by simp only at h; omega); omega, q4⟩ ?_ (by simp only; omega)⟩
      simp (implicitDefEqProofs := false)
    · have hcm : ¬ a - k < 0 := by omega
      simp (implicitDefEqProofs := false) [ir_slices_BinarySearchFunc_reredos_api_Job_reredos_api_Job_int_b0, hlh', hm, hml, hel, hlt, hcn, h1, hx, hF', hP', hcm]
      refine ⟨by simp only [inR]; omega, by simp only [inR]; omega, by simp only [inR]; omega, hQ _ [] ⟨(lo, m), by simp only; omega, by simp only; omega, q3, fun i hi h => by have := hdn i hi h; omega⟩ ?_ (by simp only; omega)⟩
      simp (implicitDefEqProofs := false)
  · have hlh2 : lo = hi := by omega
    subst hlh2
    have hpos := posJ_eq q2 q3 q4
    rw [hpos]
    by_cases hb : lo < l.length
    · have hb' : (lo : Int) < l.length := by omega
      have hel := elem_map jbC l lo hb
      have hk := hasJ_eq q3 hs hb (q4 lo hb (Nat.le_refl _))
      rw [hk]
      have hbx := hB l[lo] (List.getElem_mem hb)
      generalize l[lo] = x at hel hbx
      have hF' := hF x
      have hP' := hP x hbx
      obtain ⟨a, b, c, d, e, f⟩ := x
      simp only [jbC] at hel hF' hP' hbx ⊢
      clear hF hP
      have hcm : (a - k = 0) = (a = k) := propext ⟨fun _ => by omega, fun _ => by omega⟩
      simp (implicitDefEqProofs := false) [ir_slices_BinarySearchFunc_reredos_api_Job_reredos_api_Job_int_b0, ir_slices_BinarySearchFunc_reredos_api_Job_reredos_api_Job_int_r1, hb', hb, hel, hlt, hcn, h1, hx, hF', hP', hcm]
      rw [Bool.eq_iff_iff]
      simp [hcm]
    · have hb' : ¬ (lo : Int) < l.length := by omega
      have hk := hasJ_none (l := l) (k := k) fun i hi => q3 i hi (by omega)
      rw [hk]
      have hel0 : elem (l.map jbC) lo = [] := by
        simp [elem, List.getElem?_eq_none (show l.length ≤ lo by omega)]
      have hF0 : sp_cmt1.F [.agg [], .int .i64 k] = .int .i64 (0 - k) := rfl
      simp (implicitDefEqProofs := false) [ir_slices_BinarySearchFunc_reredos_api_Job_reredos_api_Job_int_b0, ir_slices_BinarySearchFunc_reredos_api_Job_reredos_api_Job_int_r1, hb', hel0, hlt, hcn, h1, hx, hF0]
end

/-! ### What a record of an end takes away: a closure that captures the record and the memory -/
def goneJ (me : Int) (r : Rc) (j : Jb) : Bool := decide (r.site = me) && decide (r.n = j.n)
noncomputable def hs_one1 : HSp := {
  pre := fun ds ob => ∃ (j : Jb) (r : Rc) (me nx : Int) (a b c d ns : List (List D)), ds = [.agg (jbC j), .own 1000000000 0, .own 1000000001 0] ∧ ob = [(1000000000, .box (recC r)), (1000000001, .box [.own 1000000002 0]), (1000000002, .box [.int .i64 me, .fz 3 a, .fz 6 b, .fz 3 c, .fz 2 d, .int .i64 nx, .any, .row 1000000003]), (1000000003, .row 4 ns)]
  F := fun ds ob => match ds, ob with
    | [.agg j, _, _], [(k1, .box r), (k2, o2), (k3, .box (.int z me :: cs)), q] => (.bool (goneJ me (recL r) (jbOf j)), [(k1, .box r), (k2, o2), (k3, .box (.int z me :: cs)), q])
    | _, _ => (.any, []) }
noncomputable def sp_one1 : Sp := { pre := fun _ => True, F := fun _ => .any, hx := some hs_one1 }
theorem recL_recC (r : Rc) : recL (recC r) = r := recOf_recD r
theorem one1_pre (j : Jb) (r : Rc) (me nx : Int) (a b c d ns : List (List D)) : hs_one1.pre [.agg (jbC j), .own 1000000000 0, .own 1000000001 0] [(1000000000, .box (recC r)), (1000000001, .box [.own 1000000002 0]), (1000000002, .box [.int .i64 me, .fz 3 a, .fz 6 b, .fz 3 c, .fz 2 d, .int .i64 nx, .any, .row 1000000003]), (1000000003, .row 4 ns)] = True := by
  simp only [hs_one1, eq_iff_iff, iff_true]; exact ⟨j, r, me, nx, a, b, c, d, ns, rfl, rfl⟩
theorem one1_F (j : Jb) (r : Rc) (me nx : Int) (a b c d ns : List (List D)) : hs_one1.F [.agg (jbC j), .own 1000000000 0, .own 1000000001 0] [(1000000000, .box (recC r)), (1000000001, .box [.own 1000000002 0]), (1000000002, .box [.int .i64 me, .fz 3 a, .fz 6 b, .fz 3 c, .fz 2 d, .int .i64 nx, .any, .row 1000000003]), (1000000003, .row 4 ns)] = (.bool (goneJ me r j), [(1000000000, .box (recC r)), (1000000001, .box [.own 1000000002 0]), (1000000002, .box [.int .i64 me, .fz 3 a, .fz 6 b, .fz 3 c, .fz 2 d, .int .i64 nx, .any, .row 1000000003]), (1000000003, .row 4 ns)]) := by
  simp only [hs_one1, recL_recC, jbOf_jbC]
noncomputable def hs_IdxJ : HSp := {
  pre := fun ds ob => ∃ (l : List Jb) (r : Rc) (me nx : Int) (a b c d ns : List (List D)), ds = [.row 1000000000, .clo 46 [.own 1000000001 0, .own 1000000002 0]] ∧ ob = [(1000000000, .row 6 (l.map jbC)), (1000000001, .box (recC r)), (1000000002, .box [.own 1000000003 0]), (1000000003, .box [.int .i64 me, .fz 3 a, .fz 6 b, .fz 3 c, .fz 2 d, .int .i64 nx, .row 1000000000, .row 1000000004]), (1000000004, .row 4 ns)] ∧ l.length ≤ 100000
  F := fun _ ob => match ob with
    | [(k0, .row z0 es), (k1, .box r), (k2, o2), (k3, .box [.int z me, x1, x2, x3, x4, x5, _, x7]), q] => (.int .i64 (idxOf (goneJ me (recL r)) (lsOf jbOf (.fz 6 es))), [(k0, .row z0 es), (k1, .box r), (k2, o2), (k3, .box [.int z me, x1, x2, x3, x4, x5, .any, x7]), q])
    | _ => (.any, []) }
noncomputable def sp_IdxJ : Sp := { pre := fun _ => True, F := fun _ => .any, hx := some hs_IdxJ }
theorem IdxJ_pre {l : List Jb} (hl : l.length ≤ 100000) (r : Rc) (me nx : Int) (a b c d ns : List (List D)) : hs_IdxJ.pre [.row 1000000000, .clo 46 [.own 1000000001 0, .own 1000000002 0]] [(1000000000, .row 6 (l.map jbC)), (1000000001, .box (recC r)), (1000000002, .box [.own 1000000003 0]), (1000000003, .box [.int .i64 me, .fz 3 a, .fz 6 b, .fz 3 c, .fz 2 d, .int .i64 nx, .row 1000000000, .row 1000000004]), (1000000004, .row 4 ns)] = True := by
  simp only [hs_IdxJ, eq_iff_iff, iff_true]; exact ⟨l, r, me, nx, a, b, c, d, ns, by first | rfl | trivial, by first | rfl | trivial, hl⟩
theorem IdxJ_F (l : List Jb) (r : Rc) (me nx : Int) (a b c d ns : List (List D)) : hs_IdxJ.F [.row 1000000000, .clo 46 [.own 1000000001 0, .own 1000000002 0]] [(1000000000, .row 6 (l.map jbC)), (1000000001, .box (recC r)), (1000000002, .box [.own 1000000003 0]), (1000000003, .box [.int .i64 me, .fz 3 a, .fz 6 b, .fz 3 c, .fz 2 d, .int .i64 nx, .row 1000000000, .row 1000000004]), (1000000004, .row 4 ns)] = (.int .i64 (idxOf (goneJ me r) l), [(1000000000, .row 6 (l.map jbC)), (1000000001, .box (recC r)), (1000000002, .box [.own 1000000003 0]), (1000000003, .box [.int .i64 me, .fz 3 a, .fz 6 b, .fz 3 c, .fz 2 d, .int .i64 nx, .any, .row 1000000004]), (1000000004, .row 4 ns)]) := by
  simp only [hs_IdxJ, recL_recC, jbs_of]
noncomputable def hs_DelJ : HSp := {
  pre := fun ds ob => ∃ (l : List Jb) (r : Rc) (me nx : Int) (a b c d ns : List (List D)), ds = [.row 1000000000, .clo 46 [.own 1000000001 0, .own 1000000002 0]] ∧ ob = [(1000000000, .row 6 (l.map jbC)), (1000000001, .box (recC r)), (1000000002, .box [.own 1000000003 0]), (1000000003, .box [.int .i64 me, .fz 3 a, .fz 6 b, .fz 3 c, .fz 2 d, .int .i64 nx, .row 1000000000, .row 1000000004]), (1000000004, .row 4 ns)] ∧ l.length ≤ 10000
  F := fun _ ob => match ob with
    | [(k0, .row z0 es), (k1, .box r), (k2, o2), (k3, .box [.int z me, x1, x2, x3, x4, x5, _, x7]), q] => (.row 0, [(0, .row 6 (((lsOf jbOf (.fz 6 es)).filter fun x => !(goneJ me (recL r) x)).map jbC)), (k1, .box r), (k2, o2), (k3, .box [.int z me, x1, x2, x3, x4, x5, .any, x7]), q])
    | _ => (.any, []) }
noncomputable def sp_DelJ : Sp := { pre := fun _ => True, F := fun _ => .any, hx := some hs_DelJ }
theorem DelJ_pre {l : List Jb} (hl : l.length ≤ 10000) (r : Rc) (me nx : Int) (a b c d ns : List (List D)) : hs_DelJ.pre [.row 1000000000, .clo 46 [.own 1000000001 0, .own 1000000002 0]] [(1000000000, .row 6 (l.map jbC)), (1000000001, .box (recC r)), (1000000002, .box [.own 1000000003 0]), (1000000003, .box [.int .i64 me, .fz 3 a, .fz 6 b, .fz 3 c, .fz 2 d, .int .i64 nx, .row 1000000000, .row 1000000004]), (1000000004, .row 4 ns)] = True := by
  simp only [hs_DelJ, eq_iff_iff, iff_true]; exact ⟨l, r, me, nx, a, b, c, d, ns, by first | rfl | trivial, by first | rfl | trivial, hl⟩
theorem DelJ_F (l : List Jb) (r : Rc) (me nx : Int) (a b c d ns : List (List D)) : hs_DelJ.F [.row 1000000000, .clo 46 [.own 1000000001 0, .own 1000000002 0]] [(1000000000, .row 6 (l.map jbC)), (1000000001, .box (recC r)), (1000000002, .box [.own 1000000003 0]), (1000000003, .box [.int .i64 me, .fz 3 a, .fz 6 b, .fz 3 c, .fz 2 d, .int .i64 nx, .row 1000000000, .row 1000000004]), (1000000004, .row 4 ns)] = (.row 0, [(0, .row 6 ((l.filter fun x => !(goneJ me r x)).map jbC)), (1000000001, .box (recC r)), (1000000002, .box [.own 1000000003 0]), (1000000003, .box [.int .i64 me, .fz 3 a, .fz 6 b, .fz 3 c, .fz 2 d, .int .i64 nx, .any, .row 1000000004]), (1000000004, .row 4 ns)]) := by
  simp only [hs_DelJ, recL_recC, jbs_of]
section
variable {T : Tb}
attribute [local simp] k_seq k_block k_skip k_reg k_alt k_cond k_exit k_ret kf_nil kf_seq_n kf_seq_e kf_seq_r kf_blk_n kf_blk_e kf_blk_r kf_lp_n kf_lp_e kf_lp_r kf_cut_n kf_cut_e kf_cut_r mkTm VCops VCalt istep act gd applyE wrapD Opd.ev get_mk set_mk set_mk0 tget16 tset16 tget_0 tset_0 tget_1 tset_1 tget_2 tset_2 tget_3 tset_3 tget_4 tset_4 tget_5 tset_5 tget_6 tset_6 tget_7 tset_7 tget_8 tset_8 tget_9 tset_9 tget_10 tset_10 tget_11 tset_11 tget_12 tset_12 tget_13 tset_13 tget_14 tset_14 tget_15 tset_15 D.un D.gu gus IOp.opds binD fnPost getRes IRes.get oneRes D.out outL D.clos closL D.norow norowL D.lv lvL D.scal scalL D.cells D.cell D.cell' St.lk obPut obDel List.lookup cut pickD splice fillParts fillRows elem_cons newsOf D.pl D.forget forgetL Ob.forget forgetO eqCells sg leD leDL leOb apartK St.le D.keys keysL D.rows rowsL obKeys addKeys reach pos D.ren renL Ob.ren inM outM inObs outObs goneK apartN okNames_eq okNms obNms namesOK_nil namesOK_cons freeOK_nil freeOK_cons D.frz frzL Ob.frz frzO St.frz forgetLs dropObs putObs hcall freeOf keeps baseN shD isShift shMax k_bad VCopsG frz_nil actx actc cnum vwCut St.frzT St.opnT St.clsT D.opn opnL Ob.opn opnO
set_option maxRecDepth 100000 in
set_option maxHeartbeats 8000000 in
theorem v_one1 : Verified T ir_recover_memory_one_1 sp_one1 := by
  refine Verified.mkx rfl ?_
  rintro ds ob ⟨⟨j1, j2, j3, j4, j5, j6⟩, ⟨r1, r2, r3, r4, r5, r6, r7, r8⟩, me, nx, a, b, c, d, ns, rfl, rfl⟩ R hR
  rw [one1_F] at hR
  have hg : goneJ me ⟨r1, r2, r3, r4, r5, r6, r7, r8⟩ ⟨j1, j2, j3, j4, j5, j6⟩ = (r2 == me && r3 == j1) := by
    rw [goneJ, Bool.eq_iff_iff]; simp
  rw [hg] at hR
  simp only [recC, jbC] at hR ⊢
  simp (implicitDefEqProofs := false) (maxSteps := 10000000) [ir_recover_memory_one_1]
  exact hR _ [] (by simp (implicitDefEqProofs := false) (maxSteps := 10000000))
set_option maxRecDepth 100000 in
set_option maxHeartbeats 8000000 in
theorem v_IdxJ (hc2 : T.sp 46 = none) (hc3 : T.sp 1000046 = some sp_one1) : Verified T ir_slices_IndexFunc_reredos_api_Job_reredos_api_Job sp_IdxJ := by
  refine Verified.mkx rfl ?_
  rintro ds ob ⟨l, r, me, nx, a, b, c, d, ns, rfl, rfl, hl⟩ R hR
  have hx : sp_one1.hx = some hs_one1 := rfl
  have hF := fun x => one1_F x r me nx a b c d ns
  have hP := fun x => one1_pre x r me nx a b c d ns
  rw [IdxJ_F] at hR
  generalize hg : goneJ me r = g at hF hR
  clear hg
  obtain ⟨r1, r2, r3, r4, r5, r6, r7, r8⟩ := r
  simp only [recC] at hF hP hR ⊢
  simp (implicitDefEqProofs := false) [ir_slices_IndexFunc_reredos_api_Job_reredos_api_Job]
  refine k_loop (ι := {j : Nat // j ≤ l.length ∧ ∀ i (hi : i < j) (hl : i < l.length), g l[i] = false}) (fun x => ⟨mkTm 19 0 [(0, .row 1000000000), (1, .clo 46 [.own 1000000001 0, .own 1000000002 0]), (6, .row 1000000000), (7, .int .i64 l.length), (8, .int .i64 x.1)], [(1000000000, .row 6 (l.map jbC)), (1000000001, .box [.int .i64 r1, .int .i64 r2, .int .i64 r3, .int .i64 r4, .int .i64 r5, .int .i64 r6, .bool r7, .fz 1 (r8.map ic)]), (1000000002, .box [.own 1000000003 0]), (1000000003, .box [.int .i64 me, .fz 3 a, .fz 6 b, .fz 3 c, .fz 2 d, .int .i64 nx, .any, .row 1000000004]), (1000000004, .row 4 ns)]⟩)
    (fun x => l.length - x.1) [] ⟨0, by omega, fun i hi => by omega⟩ (by simp (implicitDefEqProofs := false) ) ?_
  rintro ⟨j, hj, hb⟩ P hQ
  by_cases hjl : j < l.length
  · have hjl' : (j : Int) < l.length := by omega
    have hel := elem_map jbC l j hjl
    have hF' := hF l[j]
    have hP' := hP l[j]
    have hfnd : g l[j] = true → idxOf g l = (j : Int) := fun hq => (idxOf_found hjl hq fun i hi => hb i hi (by omega))
    have hnx : g l[j] = false → ∀ i (hi : i < j + 1) (hl : i < l.length), g l[i] = false := fun hq i hi hl => by
      by_cases e : i = j
      · subst e; exact hq
      · exact hb i (by omega) hl
    generalize l[j] = x at hel hF' hP' hfnd hnx
    clear hF hP
    cases hgx : g x
    · rw [hgx] at hF'
      replace hnx := hnx hgx
      clear hfnd
      obtain ⟨y1, y2, y3, y4, y5, y6⟩ := x
      simp only [jbC] at hel hF' hP'
      simp (implicitDefEqProofs := false) (maxSteps := 10000000) [ir_slices_IndexFunc_reredos_api_Job_reredos_api_Job_b0, hjl', hjl, hel, hc2, hc3, hx, hF', hP']
      exact ⟨by simp only [inR]; omega, hQ _ [] ⟨j + 1, by omega, hnx⟩ (by simp (implicitDefEqProofs := false) ) (by simp only; omega)⟩
    · rw [hgx] at hF'
      have hfnd2 := hfnd hgx
      clear hnx hfnd
      obtain ⟨y1, y2, y3, y4, y5, y6⟩ := x
      simp only [jbC] at hel hF' hP'
      rw [hfnd2] at hR
      simp (implicitDefEqProofs := false) (maxSteps := 10000000) [ir_slices_IndexFunc_reredos_api_Job_reredos_api_Job_b0, hjl', hjl, hel, hc2, hc3, hx, hF', hP']
      exact hR _ [] (by simp (implicitDefEqProofs := false))
  · have hjl' : ¬ (j : Int) < l.length := by omega
    have hn : idxOf g l = -1 := idxOf_none fun i hi => hb i (by omega) hi
    rw [hn] at hR
    simp (implicitDefEqProofs := false) [ir_slices_IndexFunc_reredos_api_Job_reredos_api_Job_b0, ir_slices_IndexFunc_reredos_api_Job_reredos_api_Job_r1, hjl']
    exact hR _ [] (by simp (implicitDefEqProofs := false))
set_option maxRecDepth 100000 in
set_option maxHeartbeats 8000000 in
theorem v_DelJ (h1 : T.sp n_slices_IndexFunc_reredos_api_Job_reredos_api_Job = some sp_IdxJ) (hc2 : T.sp 46 = none) (hc3 : T.sp 1000046 = some sp_one1) : Verified T ir_slices_DeleteFunc_reredos_api_Job_reredos_api_Job sp_DelJ := by
  refine Verified.mkx rfl ?_
  rintro ds ob ⟨l, r, me, nx, a, b, c, d, ns, rfl, rfl, hl⟩ R hR
  have hx : sp_one1.hx = some hs_one1 := rfl
  have hx1 : sp_IdxJ.hx = some hs_IdxJ := rfl
  have hcF := fun x => one1_F x r me nx a b c d ns
  have hcP := fun x => one1_pre x r me nx a b c d ns
  have iF := IdxJ_F l r me nx a b c d ns
  have iP := IdxJ_pre (l := l) (by omega) r me nx a b c d ns
  rw [DelJ_F] at hR
  generalize hg : goneJ me r = g at hcF iF hR
  clear hg
  obtain ⟨r1, r2, r3, r4, r5, r6, r7, r8⟩ := r
  simp only [recC] at hcF hcP iF iP hR ⊢
  rcases idxOf_spec g l with ⟨hi, hall⟩ | ⟨i, hil, hi, hgi, hbef⟩
  · rw [hi] at iF
    have hfl : l.filter (fun x => !(g x)) = l := List.filter_eq_self.2 fun x hx => by
      obtain ⟨t, ht, rfl⟩ := List.getElem_of_mem hx
      simp [hall t ht]
    rw [hfl] at hR
    simp (implicitDefEqProofs := false) (maxSteps := 10000000) [ir_slices_DeleteFunc_reredos_api_Job_reredos_api_Job, h1, hx1, iF, iP]
    exact hR _ [(0, some 1000000000)] (by simp (implicitDefEqProofs := false) (maxSteps := 10000000))
  · rw [hi] at iF
    have hin : ¬ ((i : Int) = -1) := by omega
    have hne : l.map jbC ≠ [] := by
      intro he
      rw [List.map_eq_nil_iff] at he
      subst he
      simp at hil
    simp (implicitDefEqProofs := false) (maxSteps := 10000000) [ir_slices_DeleteFunc_reredos_api_Job_reredos_api_Job, h1, hx1, iF, iP, hin, hne]
    intro m hm
    refine ⟨by simp only [inR]; omega, ?_⟩
    rw [dArr_start (C := jbC) hil]
    have hK0 := kept_start g hil hgi hbef
    have hK0l : (l.take i).length = i := by simp; omega
    refine k_loop (ι := {x : List (List D) × Nat // x.2 ≤ l.length ∧ (kept g l x.2).length + x.1.length = x.2 ∧ 1 ≤ x.1.length ∧ ∀ e ∈ x.1, e.length = 6}) (fun x => ⟨mkTm 42 0 [(0, .vw 1000000000 6 0 l.length (l.length + m)), (1, .clo 46 [.own 1000000001 0, .own 1000000002 0]), (5, .int .i64 (kept g l x.1.2).length), (6, .int .i64 x.1.2)], [(1000000000, .arr 6 (dArr jbC (kept g l x.1.2) x.1.1 l x.1.2 m [D.any, D.any, D.any, D.any, D.any, D.any])), (1000000001, .box [.int .i64 r1, .int .i64 r2, .int .i64 r3, .int .i64 r4, .int .i64 r5, .int .i64 r6, .bool r7, .fz 1 (r8.map ic)]), (1000000002, .box [.own 1000000003 0]), (1000000003, .box [.int .i64 me, .fz 3 a, .fz 6 b, .fz 3 c, .fz 2 d, .int .i64 nx, .any, .row 1000000004]), (1000000004, .row 4 ns)]⟩)
      (fun x => l.length - x.1.2) [] ⟨([jbC l[i]], i + 1), by simp only; omega, by simp only [hK0, hK0l, List.length_singleton], by simp, by simp [jbC]⟩ (by simp (implicitDefEqProofs := false) (maxSteps := 10000000) [hK0, hK0l]) ?_
    rintro ⟨⟨M, j⟩, hj, hKM, hM, hMe⟩ P hQ
    simp only at hj hKM hM hMe
    have hlen := dArr_len (C := jbC) (m := m) (Z := [D.any, D.any, D.any, D.any, D.any, D.any]) hKM hj
    by_cases hjl : j < l.length
    · have hjl' : (j : Int) < l.length := by omega
      have hel := dArr_elem (C := jbC) (m := m) (Z := [D.any, D.any, D.any, D.any, D.any, D.any]) hKM hjl
      have hst := dArr_set (C := jbC) (K := kept g l j) (m := m) (Z := [D.any, D.any, D.any, D.any, D.any, D.any]) hjl hM
      have hsk := dArr_skip (C := jbC) (K := kept g l j) (M := M) (m := m) (Z := [D.any, D.any, D.any, D.any, D.any, D.any]) hjl
      have hhd := dArr_head (C := jbC) (K := kept g l j) (l := l) (j := j) (m := m) (Z := [D.any, D.any, D.any, D.any, D.any, D.any]) hM hMe
      have hkn := kept_succ g hjl
      have hF' := hcF l[j]
      have hP' := hcP l[j]
      have hkj : (kept g l j).length < l.length + m := by omega
      generalize l[j] = x at hel hst hsk hkn hF' hP'
      clear hcF hcP
      cases hgx : g x
      · rw [hgx] at hF' hkn
        simp only [Bool.false_eq_true, if_false] at hkn
        obtain ⟨y1, y2, y3, y4, y5, y6⟩ := x
        simp only [jbC] at hel hF' hP' hst
        simp (implicitDefEqProofs := false) (maxSteps := 10000000) [ir_slices_DeleteFunc_reredos_api_Job_reredos_api_Job_b0, hjl', hjl, hel, hlen, hc2, hc3, hx, hF', hP', hkj, hhd]
        exact ⟨by omega, by omega, by simp only [inR]; omega, by simp only [inR]; omega, hQ _ [] ⟨(M.drop 1 ++ [jbC ⟨y1, y2, y3, y4, y5, y6⟩], j + 1), by simp only; omega, by simp only [hkn, List.length_append, List.length_drop, List.length_singleton]; omega, by simp, by simp only; intro e he; rcases List.mem_append.1 he with he | he; exact hMe e (List.mem_of_mem_drop he); rw [List.mem_singleton.1 he]; rfl⟩ (by simp (implicitDefEqProofs := false) (maxSteps := 10000000) [hkn, hst, jbC]) (by simp only; omega)⟩
      · rw [hgx] at hF' hkn
        simp only [if_true, List.append_nil] at hkn
        obtain ⟨y1, y2, y3, y4, y5, y6⟩ := x
        simp only [jbC] at hel hF' hP' hsk
        simp (implicitDefEqProofs := false) (maxSteps := 10000000) [ir_slices_DeleteFunc_reredos_api_Job_reredos_api_Job_b0, hjl', hjl, hel, hlen, hc2, hc3, hx, hF', hP']
        exact ⟨by omega, by simp only [inR]; omega, hQ _ [] ⟨(M ++ [jbC ⟨y1, y2, y3, y4, y5, y6⟩], j + 1), by simp only; omega, by simp only [hkn, List.length_append, List.length_singleton]; omega, by simp, by simp only; intro e he; rcases List.mem_append.1 he with he | he; exact hMe e he; rw [List.mem_singleton.1 he]; rfl⟩ (by simp (implicitDefEqProofs := false) (maxSteps := 10000000) [hkn, hsk, jbC]) (by simp only; omega)⟩
    · obtain rfl : j = l.length := by omega
      have hov := fun z => dArr_over (C := jbC) (K := kept g l l.length) (M := M) (l := l) (m := m) (Z := [D.any, D.any, D.any, D.any, D.any, D.any]) (z := z) hKM
      have hclr := fun z => dArr_clear (C := jbC) (K := kept g l l.length) (M := M) (l := l) (m := m) (Z := [D.any, D.any, D.any, D.any, D.any, D.any]) (z := z) hKM
      simp (implicitDefEqProofs := false) (maxSteps := 10000000) [ir_slices_DeleteFunc_reredos_api_Job_reredos_api_Job_b0, ir_slices_DeleteFunc_reredos_api_Job_reredos_api_Job_r1, hlen, hclr, hov]
      refine ⟨by omega, by omega, by omega, ⟨by omega, ?_⟩, hR _ [(0, some 41)] ?_⟩
      · intro x hx c hc
        simp only [jbC, List.mem_cons, List.mem_nil_iff, or_false] at hc
        rcases hc with rfl | rfl | rfl | rfl | rfl | rfl <;> rfl
      · simp (implicitDefEqProofs := false) (maxSteps := 10000000) [kept_all]
end
end Go.Proofs.YtpkabalijooeaaaDoor
