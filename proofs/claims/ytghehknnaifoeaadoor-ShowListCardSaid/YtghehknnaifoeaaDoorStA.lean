/-
  slices.Insert of one item: insI. Conditions: those of its specification's 'pre'.
-/
import Derived.Test.YtghehknnaifoeaaDoorSt1
set_option linter.unusedVariables false
set_option linter.unusedSimpArgs false
namespace Go.Proofs.YtghehknnaifoeaaDoor
open Go Go.Vcg

def insI (l : List It) (i : Nat) (x : It) : List It := l.take i ++ [x] ++ l.drop i
def hs_Ins : HSp := {
  pre := fun ds ob => ∃ (l : List It) (i : Nat) (x : It), ds = [.row 1000000000, .int .i64 i, .row 1000000001] ∧ ob = [(1000000000, .row 3 (l.map itC)), (1000000001, .row 3 [itC x])] ∧ i ≤ l.length ∧ l.length ≤ 100000
  F := fun ds ob => match ds, ob with
    | [_, .int _ i, _], [(_, .row _ es), (_, .row _ xs)] => (.row 0, [(0, .row 3 (es.take i.toNat ++ xs ++ es.drop i.toNat))])
    | _, _ => (.any, []) }
def sp_Ins : Sp := { pre := fun _ => True, F := fun _ => .any, hx := some hs_Ins }
theorem Ins_pre {l : List It} {i : Nat} {x : It} (hi : i ≤ l.length) (hl : l.length ≤ 100000) : hs_Ins.pre [.row 1000000000, .int .i64 i, .row 1000000001] [(1000000000, .row 3 (l.map itC)), (1000000001, .row 3 [itC x])] = True := by
  simp only [hs_Ins, eq_iff_iff, iff_true]; exact ⟨l, i, x, rfl, rfl, hi, hl⟩
theorem Ins_F (l : List It) (i : Nat) (x : It) : hs_Ins.F [.row 1000000000, .int .i64 i, .row 1000000001] [(1000000000, .row 3 (l.map itC)), (1000000001, .row 3 [itC x])] = (.row 0, [(0, .row 3 ((insI l i x).map itC))]) := by
  simp [hs_Ins, insI]

theorem ins_fresh {A B R : List (List D)} {x : List D} {n i : Nat} (hi : A.length = i) (hn : i + B.length + 1 = n) (hR : B.length + 1 ≤ R.length) : (over (over (A ++ R) i [x]) (i + 1) B).take n = A ++ [x] ++ B := by
  subst hi; subst hn
  have h1 : over (A ++ R) A.length [x] = A ++ [x] ++ R.drop 1 := by
    simp only [over, List.take_left, List.length_singleton, List.drop_append, List.drop_eq_nil_of_le (show A.length ≤ A.length + 1 by omega), List.nil_append, Nat.add_sub_cancel_left]
  have h2 : over (A ++ [x] ++ R.drop 1) (A.length + 1) B = (A ++ [x]) ++ B ++ ((R.drop 1).drop B.length) := by
    have e : A.length + 1 = (A ++ [x]).length := by simp
    rw [e]
    simp only [over, List.take_left, List.drop_append, List.drop_eq_nil_of_le (show (A ++ [x]).length ≤ (A ++ [x]).length + B.length by omega), List.nil_append, Nat.add_sub_cancel_left]
  rw [h1, h2]
  have e : A.length + B.length + 1 = (A ++ [x] ++ B).length := by simp; omega
  rw [e, List.take_left]
theorem ins_place {A B R : List (List D)} {x : List D} {n i : Nat} (hi : A.length = i) (hn : i + B.length + 1 = n) (hR : B.length + 1 ≤ R.length) : (over (over (A ++ R) (i + 1) B) i [x]).take n = A ++ [x] ++ B := by
  subst hi; subst hn
  obtain ⟨r, R', rfl⟩ : ∃ r R', R = r :: R' := by
    cases R with
    | nil => simp at hR
    | cons r R' => exact ⟨r, R', rfl⟩
  have h1 : over (A ++ r :: R') (A.length + 1) B = A ++ r :: (B ++ R'.drop B.length) := by
    have e : A ++ r :: R' = (A ++ [r]) ++ R' := by simp
    have e2 : A.length + 1 = (A ++ [r]).length := by simp
    rw [e, e2]
    simp only [over, List.take_left, List.drop_append, List.drop_eq_nil_of_le (show (A ++ [r]).length ≤ (A ++ [r]).length + B.length by omega), List.nil_append, Nat.add_sub_cancel_left]
    simp
  have h2 : over (A ++ r :: (B ++ R'.drop B.length)) A.length [x] = (A ++ [x] ++ B) ++ R'.drop B.length := by
    simp only [over, List.take_left, List.length_singleton, List.drop_append, List.drop_eq_nil_of_le (show A.length ≤ A.length + 1 by omega), List.nil_append, Nat.add_sub_cancel_left]
    simp
  rw [h1, h2]
  have e : A.length + B.length + 1 = (A ++ [x] ++ B).length := by simp; omega
  rw [e, List.take_left]
def zz : List D := [.any, .any, .any]
theorem all_itC (l : List It) : (l.map itC).all (fun e => e.all D.cell) = true := by
  rw [List.all_eq_true]
  intro e he
  obtain ⟨x, _, rfl⟩ := List.mem_map.1 he
  rfl
theorem ins_all1 {l : List It} {i m : Nat} (h : i ≤ l.length) : ((l.map itC ++ List.replicate m [D.any, D.any, D.any]).take i).all (fun e => e.all D.cell) = true := by
  rw [List.take_append_of_le_length (by simpa using h), ← List.map_take]
  exact all_itC _
theorem ins_all2 {l : List It} {i m x : Nat} (h : i ≤ l.length) : (((l.map itC ++ List.replicate m [D.any, D.any, D.any]).drop i).take (min (l.length - i) x)).all (fun e => e.all D.cell) = true := by
  rw [List.drop_append_of_le_length (by simpa using h), List.take_append_of_le_length (by simp; omega), ← List.map_drop, ← List.map_take]
  exact all_itC _

section
variable {T : Tb}
attribute [local simp] k_seq k_block k_skip k_reg k_alt k_cond k_exit k_ret kf_nil kf_seq_n kf_seq_e kf_seq_r kf_blk_n kf_blk_e kf_blk_r kf_lp_n kf_lp_e kf_lp_r kf_cut_n kf_cut_e kf_cut_r mkTm VCops VCalt istep act gd applyE wrapD Opd.ev get_mk set_mk set_mk0 tget16 tset16 tget_0 tset_0 tget_1 tset_1 tget_2 tset_2 tget_3 tset_3 tget_4 tset_4 tget_5 tset_5 tget_6 tset_6 tget_7 tset_7 tget_8 tset_8 tget_9 tset_9 tget_10 tset_10 tget_11 tset_11 tget_12 tset_12 tget_13 tset_13 tget_14 tset_14 tget_15 tset_15 D.un D.gu gus IOp.opds binD fnPost getRes IRes.get oneRes D.out outL D.clos closL D.norow norowL D.lv lvL D.scal scalL D.cells D.cell D.cell' St.lk obPut obDel List.lookup cut pickD splice fillParts fillRows elem_cons newsOf D.pl D.forget forgetL Ob.forget forgetO eqCells sg leD leDL leOb apartK St.le D.keys keysL D.rows rowsL obKeys addKeys reach pos D.ren renL Ob.ren inM outM inObs outObs goneK apartN okNames_eq okNms obNms namesOK_nil namesOK_cons freeOK_nil freeOK_cons D.frz frzL Ob.frz frzO St.frz forgetLs dropObs putObs hcall freeOf keeps baseN shD isShift shMax k_bad VCopsG frz_nil actx actc cnum vwCut St.frzT St.opnT St.clsT D.opn opnL Ob.opn opnO VCou VCcx St.oneS D.objI D.objK scrL D.scr St.opnS St.clsS D.cellS D.fzs fzsL k_mrk k_mrq IOper.gh
set_option maxRecDepth 100000 in
set_option maxHeartbeats 8000000 in
theorem v_Ins : Verified T ir_slices_Insert_reredos_api_Item_reredos_api_Item sp_Ins := by
  refine Verified.mkx rfl ?_
  rintro ds ob ⟨l, i, x, rfl, rfl, hi, hl⟩ R hR
  rw [Ins_F] at hR
  by_cases he : i = l.length
  · subst he
    have hins : insI l l.length x = l ++ [x] := by simp [insI]
    rw [hins] at hR
    obtain ⟨x1, x2, x3⟩ := x
    simp only [itC, List.map_append, List.map_cons, List.map_nil] at hR
    simp (implicitDefEqProofs := false) (maxSteps := 10000000) [ir_slices_Insert_reredos_api_Item_reredos_api_Item, itC]
    refine ⟨by omega, hR _ [(0, some 25)] ?_⟩
    simp
  · have hne : ¬ (i : Int) = l.length := by omega
    have hnn : l.map itC ≠ [] := by
      intro h
      rw [List.map_eq_nil_iff] at h
      subst h
      simp at hi he
      omega
    obtain ⟨x1, x2, x3⟩ := x
    have hfin : (insI l i ⟨x1, x2, x3⟩).map itC = (l.map itC).take i ++ [[.int .i64 x1, .int .i64 x2, .int .i64 x3]] ++ (l.map itC).drop i := by
      simp [insI, itC, List.map_take, List.map_drop]
    rw [hfin] at hR
    simp only [itC] at hR
    have hli : ((l.map itC).take i).length = i := by simp; omega
    have hld : ((l.map itC).drop i).length = l.length - i := by simp
    have k1 : ((l.map itC).take i).all (fun e => e.all D.cell) = true := by rw [← List.map_take]; exact all_itC _
    have k2 : ((l.map itC).drop i).all (fun e => e.all D.cell) = true := by rw [← List.map_drop]; exact all_itC _
    have k3 : ∀ m : Nat, l.length - i ≤ l.length + m - i := by intros; omega
    have k4 : ∀ m : Nat, i + (l.length - i) ≤ l.length + m := by intros; omega
    have m1 : ∀ m : Nat, min i (l.length + m) = i := by intros; omega
    have m5 : min i l.length = i := by omega
    have m2 : i + (l.length + 1 - i) = l.length + 1 := by omega
    have m3 : min (l.length + 1 - i) (l.length - i) = l.length - i := by omega
    have m4 : ∀ x : List D, List.take (l.length + 1 - i) [x] = [x] := by intro x; exact List.take_of_length_le (by simp; omega)
    have t1 : ∀ m : Nat, (l.map itC ++ List.replicate m [D.any, D.any, D.any]).take i = (l.map itC).take i := fun m => List.take_append_of_le_length (by simpa using hi)
    have t2 : ∀ m : Nat, ((l.map itC ++ List.replicate m [D.any, D.any, D.any]).drop i).take (l.length - i) = (l.map itC).drop i := by
      intro m
      rw [List.drop_append_of_le_length (by simpa using hi), ← hld, List.take_left]
    have t3 : ((l.map itC).drop i).take (l.length - i) = (l.map itC).drop i := List.take_of_length_le (by rw [hld]; omega)
    have f1 : ∀ (R : List (List D)) (x : List D), l.length - i + 1 ≤ R.length → (over (over ((l.map itC).take i ++ R) i [x]) (i + 1) ((l.map itC).drop i)).take (l.length + 1) = (l.map itC).take i ++ [x] ++ (l.map itC).drop i :=
      fun R x h => ins_fresh hli (by rw [hld]; omega) (by rw [hld]; exact h)
    have f2 : ∀ (m : Nat) (x : List D), 1 ≤ m → (over (over (l.map itC ++ List.replicate m [D.any, D.any, D.any]) (i + 1) ((l.map itC).drop i)) i [x]).take (l.length + 1) = (l.map itC).take i ++ [x] ++ (l.map itC).drop i := by
      intro m x h
      have e : l.map itC ++ List.replicate m [D.any, D.any, D.any] = (l.map itC).take i ++ ((l.map itC).drop i ++ List.replicate m [D.any, D.any, D.any]) := by rw [← List.append_assoc, List.take_append_drop]
      rw [e]
      exact ins_place hli (by rw [hld]; omega) (by simp; omega)
    have f1' : ∀ (m : Nat) (y z : List D) (x : List D), (over (over ((l.map itC).take i ++ (List.replicate (l.length + 1 - i) z ++ List.replicate m y)) i [x]) (i + 1) ((l.map itC).drop i)).take (l.length + 1) = (l.map itC).take i ++ [x] ++ (l.map itC).drop i :=
      fun m y z x => f1 _ x (by simp; omega)
    have g0 : ∀ (m : Nat) (y z : List D), ((l.map itC).take i ++ (List.replicate (l.length + 1 - i) z ++ List.replicate m y)).length = l.length + 1 + m := by intros; rw [List.length_append, hli]; simp; omega
    have g1 : ∀ (m : Nat) (y z x : List D), (over ((l.map itC).take i ++ (List.replicate (l.length + 1 - i) z ++ List.replicate m y)) i [x]).length = l.length + 1 + m := by
      intro m y z x
      rw [length_over (by rw [g0]; simp; omega), g0]
    have g2 : ∀ (m : Nat) (y z x : List D), (over (over ((l.map itC).take i ++ (List.replicate (l.length + 1 - i) z ++ List.replicate m y)) i [x]) (i + 1) ((l.map itC).drop i)).length = l.length + 1 + m := by
      intro m y z x
      rw [length_over (by rw [g1, hld]; omega), g1]
    simp (implicitDefEqProofs := false) (maxSteps := 10000000) [ir_slices_Insert_reredos_api_Item_reredos_api_Item, hne, hnn, k1, k2, k3, k4, m1, m2, m3, m4, m5, t1, t2, t3, f1', g1, g2, itC]
    have l0 : ∀ m : Nat, (l.map itC ++ List.replicate m [D.any, D.any, D.any]).length = l.length + m := by intros; simp
    have l1 : ∀ m : Nat, 1 ≤ m → (over (l.map itC ++ List.replicate m [D.any, D.any, D.any]) (i + 1) ((l.map itC).drop i)).length = l.length + m := by
      intro m h
      rw [length_over (by rw [l0, hld]; omega), l0]
    have l2 : ∀ (m : Nat) (x : List D), 1 ≤ m → (over (over (l.map itC ++ List.replicate m [D.any, D.any, D.any]) (i + 1) ((l.map itC).drop i)) i [x]).length = l.length + m := by
      intro m x h
      rw [length_over (by rw [l1 m h]; simp; omega), l1 m h]
    have ac : ((List.take i (l.map itC) ++ [[D.int .i64 x1, D.int .i64 x2, D.int .i64 x3]] ++ List.drop i (l.map itC)).all fun e => e.all D.cell) = true := by
      simp only [List.all_append, k1, k2, Bool.and_true, Bool.true_and]
      rfl
    refine ⟨hi, fun m hm => ⟨by simp only [inR]; omega, fun hz => ?_, fun hz => ?_⟩⟩
    · obtain rfl : m = 0 := by omega
      refine ⟨by omega, by simp only [inR]; omega, by simp only [inR]; omega, by omega, by omega, fun m' hm' => ?_⟩
      refine ⟨by omega, by omega, by simp only [inR]; omega, by omega, by omega, by omega, hR _ [(0, some 55)] ?_⟩
      simp
    · have hz' : 1 ≤ m := by omega
      rw [l1 m hz', l2 m _ hz', f2 m _ hz']
      refine ⟨by simp only [inR]; omega, by omega, by simp only [inR]; omega, by omega, by omega, by simp only [inR]; omega, by omega, by omega, by omega, by omega, by omega, ⟨by omega, rfl, ?_⟩, hR _ [(0, some 83)] ?_⟩
      · intro e he c hc
        exact List.all_eq_true.1 (List.all_eq_true.1 ac e he) c hc
      · simp
end
end Go.Proofs.YtghehknnaifoeaaDoor
