/-
  label.Check, two, a site and part.own compute what the plain functions beside them say. Conditions: those of its specification's 'pre', and that the functions that are called are what theirs say.
-/
import Derived.Test.YtilahimnineigaaDoorHrA
set_option linter.unusedVariables false
set_option linter.unusedSimpArgs false
namespace Go.Proofs.YtilahimnineigaaDoor
open Go Go.Vcg

/-- Two labels. -/
def twoC (S P : Int) : List D := [.int .i64 S, .fz 2 [[.int .i64 0, .int .i64 0], [.int .i64 1, .int .i64 0]], .int .i64 P]
theorem check_two {S P : Int} (hS : 1 ≤ S ∧ S ≤ 4) (hP : 1 ≤ P ∧ P ≤ 1048576) : check S [(0, 0), (1, 0)] P = 0 := by
  have : chkL [] [(0, 0), (1, 0)] = 0 := by decide
  rw [check, if_neg (by omega), if_neg (by simp), if_pos this, if_neg (by omega)]
theorem lcheck_F {S P : Int} (hS : 1 ≤ S ∧ S ≤ 4) (hP : 1 ≤ P ∧ P ≤ 1048576) : sp_Check.F [.agg (twoC S P)] = .int .i64 0 := by
  have e : D.agg (twoC S P) = cfgD S [(0, 0), (1, 0)] P := rfl
  simp only [e, sp_Check, cfgOf_cfgD, check_two hS hP]
theorem lcheck_pre (S P : Int) : sp_Check.pre [.agg (twoC S P)] = True := by
  simp only [sp_Check, eq_iff_iff, iff_true]; exact ⟨_, rfl, rfl⟩
def sp_two : Sp := { pre := fun ds => ∃ s : Int, ds = [.int .i64 s] ∧ inR .i64 s, F := fun | [.int _ s] => .agg (twoC (1 + pk s 3) 3) | _ => .any }
theorem two_F (s : Int) : sp_two.F [.int .i64 s] = .agg (twoC (1 + pk s 3) 3) := rfl
theorem two_pre {s : Int} (h : inR .i64 s) : sp_two.pre [.int .i64 s] = True := by
  simp only [sp_two, eq_iff_iff, iff_true]; exact ⟨_, rfl, h⟩
/-- A store with nothing in it, as it is made. -/
def nilS : List D := [.fz 3 [], .fz 6 [], .fz 3 [], .fz 2 []]
/-- The cells say a store. -/
def isSt (x : List D) (b : Sto) : Prop := x = stoC b ∨ (x = nilS ∧ b = s0)
def siteC (S P l me : Int) (x y : List D) : List D := [.int .i64 S, .fz 2 [[.int .i64 0, .int .i64 0], [.int .i64 1, .int .i64 0]], .int .i64 P, .int .i64 l, .int .i64 me, .fz 4 [x, y]]
def sp_site : Sp := { pre := fun ds => ∃ (S P l me : Int) (a b : Sto) (x y : List D), ds = [.ad 6 [siteC S P l me x y] 0 0] ∧ (1 ≤ S ∧ S ≤ 4) ∧ (1 ≤ P ∧ P ≤ 1048576) ∧ (0 ≤ l ∧ l ≤ 2) ∧ (0 ≤ me ∧ me < S) ∧ isSt x a ∧ isSt y b ∧ OkS a ∧ OkS b ∧ fewS a ∧ fewS b, F := fun | [.ad _ [[_, _, _, .int _ l, _, _]] _ _] => .int .i64 (if l = 2 then 6 else 0) | _ => .any }
theorem site_F (S P l me : Int) (x y : List D) : sp_site.F [.ad 6 [siteC S P l me x y] 0 0] = .int .i64 (if l = 2 then 6 else 0) := rfl
theorem site_pre {S P l me : Int} {a b : Sto} {x y : List D} (hS : 1 ≤ S ∧ S ≤ 4) (hP : 1 ≤ P ∧ P ≤ 1048576) (hl : 0 ≤ l ∧ l ≤ 2) (hme : 0 ≤ me ∧ me < S) (hx : isSt x a) (hy : isSt y b) (h1 : OkS a) (h2 : OkS b) (h3 : fewS a) (h4 : fewS b) : sp_site.pre [.ad 6 [siteC S P l me x y] 0 0] = True := by
  simp only [sp_site, eq_iff_iff, iff_true]; exact ⟨S, P, l, me, a, b, x, y, rfl, hS, hP, hl, hme, hx, hy, h1, h2, h3, h4⟩
/-- An answer: a store, messages, records, notes. -/
def ansC (s : Sto) (ms rs ns : List (List D)) : List D := [.fz 3 (s.items.map itC), .fz 6 (s.locks.map lkC), .fz 3 (s.doubts.map dbC), .fz 2 (s.over.map txC), .fz 12 ms, .fz 8 rs, .fz 4 ns]
def sp_pown : Sp := { pre := fun ds => ∃ (s : Sto) (ms rs n0 ns : List (List D)), ds = [.agg (ansC s ms rs n0), .fz 4 ns] ∧ fewS s, F := fun | [.agg [a, b, c, d, m, r, _], n] => .agg [a, b, c, d, m, r, n] | _ => .any }
theorem pown_F (s : Sto) (ms rs n0 ns : List (List D)) : sp_pown.F [.agg (ansC s ms rs n0), .fz 4 ns] = .agg (ansC s ms rs ns) := rfl
theorem pown_pre {s : Sto} (h : fewS s) (ms rs n0 ns : List (List D)) : sp_pown.pre [.agg (ansC s ms rs n0), .fz 4 ns] = True := by
  simp only [sp_pown, eq_iff_iff, iff_true]; exact ⟨s, ms, rs, n0, ns, rfl, h⟩
section
variable {T : Tb}
attribute [local simp] k_seq k_block k_skip k_reg k_alt k_cond k_exit k_ret kf_nil kf_seq_n kf_seq_e kf_seq_r kf_blk_n kf_blk_e kf_blk_r kf_lp_n kf_lp_e kf_lp_r kf_cut_n kf_cut_e kf_cut_r mkTm VCops VCalt istep act gd applyE wrapD Opd.ev get_mk set_mk set_mk0 tget16 tset16 tget_0 tset_0 tget_1 tset_1 tget_2 tset_2 tget_3 tset_3 tget_4 tset_4 tget_5 tset_5 tget_6 tset_6 tget_7 tset_7 tget_8 tset_8 tget_9 tset_9 tget_10 tset_10 tget_11 tset_11 tget_12 tset_12 tget_13 tset_13 tget_14 tset_14 tget_15 tset_15 D.un D.gu gus IOp.opds binD fnPost getRes IRes.get oneRes D.out outL D.clos closL D.norow norowL D.lv lvL D.scal scalL D.cells D.cell D.cell' St.lk obPut obDel List.lookup cut pickD splice fillParts fillRows elem_cons newsOf D.pl D.forget forgetL Ob.forget forgetO eqCells sg leD leDL leOb apartK St.le D.keys keysL D.rows rowsL obKeys addKeys reach pos D.ren renL Ob.ren inM outM inObs outObs goneK apartN okNames_eq okNms obNms namesOK_nil namesOK_cons freeOK_nil freeOK_cons D.frz frzL Ob.frz frzO St.frz forgetLs dropObs putObs hcall freeOf keeps baseN shD isShift shMax k_bad VCopsG frz_nil actx actc cnum vwCut St.frzT St.opnT St.clsT D.opn opnL Ob.opn opnO
theorem v_two (h1 : T.sp n_reredoskeep_picked = some sp_picked) : Verified T ir_reredoskeep_two sp_two := by
  refine Verified.mk ?_
  rintro ds ⟨s, rfl, hs⟩
  have x1 : sp_picked.hx = none := rfl
  have b1 := pk_bounds s 3 (by decide)
  have q1 := pk_pre hs (m := 3) (by decide)
  have q2 := pk_F s 3
  rw [two_F]
  generalize pk s 3 = A at b1 q2 ⊢
  have r1 : inR .i64 (1 + A) := by simp only [inR]; omega
  simp (implicitDefEqProofs := false) (maxSteps := 10000000) [ir_reredoskeep_two, twoC, h1, x1, q1, q2, r1]
theorem v_CloneN : Verified T ir_slices_Clone_reredos_api_Note_reredos_api_Note (sp_Clone 4) := by
  refine Verified.mkx rfl ?_
  rintro ds ob ⟨es, rfl, rfl, h⟩ R hR
  rw [Clone_F] at hR
  cases es with
  | nil =>
    simp (implicitDefEqProofs := false) [ir_slices_Clone_reredos_api_Note_reredos_api_Note]
    exact ⟨hR _ [(0, none)] (by simp (implicitDefEqProofs := false)), hR _ [(0, some 7)] (by simp (implicitDefEqProofs := false))⟩
  | cons e es =>
    simp only [List.length_cons] at h
    simp (implicitDefEqProofs := false) [ir_slices_Clone_reredos_api_Note_reredos_api_Note]
    exact ⟨⟨by omega, by omega⟩, hR _ [(0, some 7)] (by simp (implicitDefEqProofs := false))⟩
set_option maxRecDepth 100000 in
set_option maxHeartbeats 8000000 in
theorem v_pown (h1 : T.sp n_slices_Clone_reredos_api_Item_reredos_api_Item = some (sp_Clone 3)) (h2 : T.sp n_slices_Clone_reredos_api_Lock_reredos_api_Lock = some (sp_Clone 6)) (h3 : T.sp n_slices_Clone_reredos_api_Doubt_reredos_api_Doubt = some (sp_Clone 3)) (h4 : T.sp n_slices_Clone_reredos_api_Txn_reredos_api_Txn = some (sp_Clone 2)) : Verified T ir_part_own sp_pown := by
  refine Verified.mk ?_
  rintro ds ⟨⟨a, b, c, d⟩, ms, rs, n0, ns, rfl, f1, f2, f3, f4⟩
  simp only at f1 f2 f3 f4
  rw [pown_F]
  have p1 := Clone_pre (sz := 3) (es := a.map itC) (by simpa using f1)
  have p2 := Clone_pre (sz := 6) (es := b.map lkC) (by simpa using f2)
  have p3 := Clone_pre (sz := 3) (es := c.map dbC) (by simpa using f3)
  have p4 := Clone_pre (sz := 2) (es := d.map txC) (by simpa using f4)
  have x1 : ∀ k, (sp_Clone k).hx = some (hs_Clone k) := fun _ => rfl
  simp (implicitDefEqProofs := false) (maxSteps := 10000000) [ir_part_own, ansC, h1, h2, h3, h4, x1, p1, p2, p3, p4, Clone_F]
set_option maxRecDepth 100000 in
set_option maxHeartbeats 8000000 in
theorem v_site (h1 : T.sp n_label_Check = some sp_Check) (h2 : T.sp n_store_Check = some sp_SCheck) : Verified T ir_part_site_check sp_site := by
  refine Verified.mk ?_
  rintro ds ⟨S, P, l, me, a, b, x, y, rfl, hS, hP, hl, hme, hx, hy, oa, ob, fa, fb⟩
  rw [site_F]
  have x1 : sp_Check.hx = none := rfl
  have x2 : sp_SCheck.hx = none := rfl
  have f1 := lcheck_F hS hP
  have p1 := lcheck_pre S P
  have f2 := chk_F' oa
  have p2 := chk_pre fa
  have f3 := chk_F' ob
  have p3 := chk_pre fb
  simp only [twoC] at f1 p1
  have l1 : ¬ l < 0 := by omega
  have m1 : ¬ me < 0 := by omega
  have m2 : ¬ S ≤ me := by omega
  by_cases h2' : l = 2
  · subst h2'
    simp (implicitDefEqProofs := false) (maxSteps := 10000000) [ir_part_site_check, siteC, h1, x1, f1, p1]
  · have l2 : ¬ 2 ≤ l := by omega
    simp (implicitDefEqProofs := false) (maxSteps := 10000000) [ir_part_site_check, siteC, h1, x1, f1, p1, l1, l2, m1, m2, h2']
    refine k_loop (ι := {j : Nat // j ≤ 2}) (fun z => ⟨mkTm 77 0 [(65, .fz 4 [x, y]), (66, .int .i64 2), (67, .int .i64 z.1)], []⟩)
      (fun z => 2 - z.1) [] ⟨0, by omega⟩ (by simp (implicitDefEqProofs := false) (maxSteps := 10000000)) ?_
    rintro ⟨j, hj⟩ Q hQ
    have hgo : ∀ n : Nat, n = j + 1 → n ≤ 2 → ∀ s', (∃ σ, St.le σ s' ⟨mkTm 77 0 [(65, .fz 4 [x, y]), (66, .int .i64 2), (67, .int .i64 (n : Int))], []⟩) → Q s' := by
      rintro n hn hn2 s' ⟨σ, hs'⟩
      exact hQ s' σ ⟨n, hn2⟩ hs' (by simp only; omega)
    clear hQ
    obtain ⟨a1, a2, a3, a4⟩ := a
    obtain ⟨b1, b2, b3, b4⟩ := b
    simp only [stoC] at f2 p2 f3 p3
    have hj3 : j = 0 ∨ j = 1 ∨ j = 2 := by omega
    rcases hj3 with rfl | rfl | rfl
    · have hg := hgo 1 rfl (by omega)
      clear hgo
      rcases hx with rfl | ⟨rfl, e⟩
      · simp only [stoC] at hg ⊢
        simp (implicitDefEqProofs := false) (maxSteps := 10000000) [ir_part_site_check_b0, h2, x2, f2, p2]
        exact ⟨by simp only [inR]; omega, hg _ ⟨[], by simp (implicitDefEqProofs := false) (maxSteps := 10000000)⟩⟩
      · cases e
        simp only [List.map_nil] at f2 p2
        simp only [nilS] at hg ⊢
        simp (implicitDefEqProofs := false) (maxSteps := 10000000) [ir_part_site_check_b0, h2, x2, f2, p2]
        exact ⟨by simp only [inR]; omega, hg _ ⟨[], by simp (implicitDefEqProofs := false) (maxSteps := 10000000)⟩⟩
    · have hg := hgo 2 rfl (by omega)
      clear hgo
      rcases hy with rfl | ⟨rfl, e⟩
      · simp only [stoC] at hg ⊢
        simp (implicitDefEqProofs := false) (maxSteps := 10000000) [ir_part_site_check_b0, h2, x2, f3, p3]
        exact ⟨by simp only [inR]; omega, hg _ ⟨[], by simp (implicitDefEqProofs := false) (maxSteps := 10000000)⟩⟩
      · cases e
        simp only [List.map_nil] at f3 p3
        simp only [nilS] at hg ⊢
        simp (implicitDefEqProofs := false) (maxSteps := 10000000) [ir_part_site_check_b0, h2, x2, f3, p3]
        exact ⟨by simp only [inR]; omega, hg _ ⟨[], by simp (implicitDefEqProofs := false) (maxSteps := 10000000)⟩⟩
    · simp (implicitDefEqProofs := false) (maxSteps := 10000000) [ir_part_site_check_b0, ir_part_site_check_r1]
end
end Go.Proofs.YtilahimnineigaaDoor
