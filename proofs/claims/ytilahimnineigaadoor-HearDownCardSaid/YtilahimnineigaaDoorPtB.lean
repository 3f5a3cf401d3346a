/-
  part.Force computes what its specification says. Conditions: those of its specification's 'pre', and that the functions that are called are what theirs say.
-/
import Derived.Test.YtilahimnineigaaDoorPtAh
set_option linter.unusedVariables false
set_option linter.unusedSimpArgs false
namespace Go.Proofs.YtilahimnineigaaDoor
open Go Go.Vcg

structure Nt where
  (site n : Int) (yes dam : Bool)
def ntC (x : Nt) : List D := [.int .i64 x.site, .int .i64 x.n, .bool x.yes, .bool x.dam]
def ntOf : List D → Nt
  | [.int _ a, .int _ b, .bool c, .bool d] => ⟨a, b, c, d⟩
  | _ => ⟨0, 0, false, false⟩
theorem nts_of (l : List Nt) : lsOf ntOf (.fz 4 (l.map ntC)) = l := lsOf_map (fun _ => rfl) 4 l
/-- The record of an end. -/
def recC (k : Int) (t : Tx) (yes : Bool) : List D := [.int .i64 k, .int .i64 t.1, .int .i64 t.2, .int .i64 0, .int .i64 0, .int .i64 0, .bool yes, .fz 1 []]
noncomputable def forceD (a : Sto) (ns : List Nt) (t : Tx) (yes : Bool) : D :=
  if (writesS a t).2 ≠ 0 then .tup [.agg (ansC s0 [] [] []), .int .i64 (writesS a t).2]
  else if (writesS a t).1 = 0 then .tup [.agg (ansC s0 [] [] []), .int .i64 6]
  else if 60 ≤ ns.length then .tup [.agg (ansC s0 [] [] []), .int .i64 8]
  else .tup [.agg (ansC (endS a t yes).1 [] [recC 6 t yes] ((ns ++ [(⟨t.1, t.2, yes, false⟩ : Nt)]).map ntC)), .int .i64 0]
noncomputable def sp_Force : Sp := { pre := fun ds => ∃ (S P me : Int) (a : Sto) (ns : List Nt) (t : Tx) (yes : Bool), ds = [.agg (twoC S P), .int .i64 0, .int .i64 me, .fz 4 [stoC a, nilS], .fz 4 (ns.map ntC), .agg (txC t), .bool yes] ∧ (1 ≤ S ∧ S ≤ 4) ∧ (1 ≤ P ∧ P ≤ 1048576) ∧ (0 ≤ me ∧ me < S) ∧ OkS a ∧ fewS' a ∧ ns.length ≤ 100, F := fun | [_, _, _, .fz _ [a, _], n, .agg t, .bool yes] => forceD (stoOf (.agg a)) (lsOf ntOf n) (txOf t) yes | _ => .any }
theorem force_F (S P me : Int) (a : Sto) (ns : List Nt) (t : Tx) (yes : Bool) : sp_Force.F [.agg (twoC S P), .int .i64 0, .int .i64 me, .fz 4 [stoC a, nilS], .fz 4 (ns.map ntC), .agg (txC t), .bool yes] = forceD a ns t yes := by
  have e : D.agg (stoC a) = stoD a := rfl
  simp only [sp_Force, e, stoOf_stoD, nts_of, txOf_txC]
theorem force_pre {S P me : Int} {a : Sto} {ns : List Nt} (hS : 1 ≤ S ∧ S ≤ 4) (hP : 1 ≤ P ∧ P ≤ 1048576) (hme : 0 ≤ me ∧ me < S) (h1 : OkS a) (h2 : fewS' a) (h3 : ns.length ≤ 100) (t : Tx) (yes : Bool) : sp_Force.pre [.agg (twoC S P), .int .i64 0, .int .i64 me, .fz 4 [stoC a, nilS], .fz 4 (ns.map ntC), .agg (txC t), .bool yes] = True := by
  simp only [sp_Force, eq_iff_iff, iff_true]; exact ⟨S, P, me, a, ns, t, yes, rfl, hS, hP, hme, h1, h2, h3⟩
section
variable {T : Tb}
attribute [local simp] k_seq k_block k_skip k_reg k_alt k_cond k_exit k_ret kf_nil kf_seq_n kf_seq_e kf_seq_r kf_blk_n kf_blk_e kf_blk_r kf_lp_n kf_lp_e kf_lp_r kf_cut_n kf_cut_e kf_cut_r mkTm VCops VCalt istep act gd applyE wrapD Opd.ev get_mk set_mk set_mk0 tget16 tset16 tget_0 tset_0 tget_1 tset_1 tget_2 tset_2 tget_3 tset_3 tget_4 tset_4 tget_5 tset_5 tget_6 tset_6 tget_7 tset_7 tget_8 tset_8 tget_9 tset_9 tget_10 tset_10 tget_11 tset_11 tget_12 tset_12 tget_13 tset_13 tget_14 tset_14 tget_15 tset_15 D.un D.gu gus IOp.opds binD fnPost getRes IRes.get oneRes D.out outL D.clos closL D.norow norowL D.lv lvL D.scal scalL D.cells D.cell D.cell' St.lk obPut obDel List.lookup cut pickD splice fillParts fillRows elem_cons newsOf D.pl D.forget forgetL Ob.forget forgetO eqCells sg leD leDL leOb apartK St.le D.keys keysL D.rows rowsL obKeys addKeys reach pos D.ren renL Ob.ren inM outM inObs outObs goneK apartN okNames_eq okNms obNms namesOK_nil namesOK_cons freeOK_nil freeOK_cons D.frz frzL Ob.frz frzO St.frz forgetLs dropObs putObs hcall freeOf keeps baseN shD isShift shMax k_bad VCopsG frz_nil actx actc cnum vwCut St.frzT St.opnT St.clsT D.opn opnL Ob.opn opnO
set_option maxRecDepth 100000 in
set_option maxHeartbeats 8000000 in
theorem v_Force (h1 : T.sp n_part_site_check = some sp_site) (h2 : T.sp n_store_Writes = some sp_Writes) (h3 : T.sp n_store_End = some sp_End) (h4 : T.sp n_slices_Clone_reredos_api_Note_reredos_api_Note = some (sp_Clone 4)) (h5 : T.sp n_part_own = some sp_pown) : Verified T ir_part_Force sp_Force := by
  refine Verified.mk ?_
  rintro ds ⟨S, P, me, a, ns, ⟨t1, t2⟩, yes, rfl, hS, hP, hme, oa, fa, hn⟩
  rw [force_F]
  have x1 : sp_site.hx = none := rfl
  have x2 : sp_Writes.hx = none := rfl
  have x3 : sp_End.hx = none := rfl
  have x4 : (sp_Clone 4).hx = some (hs_Clone 4) := rfl
  have x5 : sp_pown.hx = none := rfl
  have o0 : OkS s0 := (okS_iff _).1 okS_s0
  have f1 := site_F S P 0 me (stoC a) nilS
  have p1 := site_pre (x := stoC a) (y := nilS) hS hP (l := 0) (by omega) hme (.inl rfl) (.inr ⟨rfl, rfl⟩) oa o0 (fewS'_fewS fa) (by simp [fewS, s0])
  rw [if_neg (by omega)] at f1
  have f2 := writes_F a (t1, t2)
  have p2 := writes_pre fa (t1, t2)
  have f3 := end_F a (t1, t2) yes
  have p3 := end_pre fa (t1, t2) yes
  have p4 := Clone_pre (sz := 4) (es := ns.map ntC) (by simpa using (by omega : ns.length ≤ 100000))
  have hF : (writesS a (t1, t2)).2 = 0 → fewS (endS a (t1, t2) yes).1 := by
    intro he
    by_cases hc : callE a (t1, t2) 0 = 0
    · have h5 := (endIts_spec oa.sorted (verLe_ok (okS_parts ((okS_iff a).2 oa)).1) (t1, t2) yes a.locks a.locks.length (Nat.le_refl _)).2.2
      rw [List.take_length] at h5
      rw [endS, if_neg (by simp [hc])]
      obtain ⟨g1, g2, g3, g4⟩ := fa
      have := length_overL a.over (t1, t2)
      have := List.length_filter_le (fun x : Lk => !isTx x.site x.n (t1, t2)) a.locks
      have := List.length_filter_le (fun x : Db => !isTx x.site x.n (t1, t2)) a.doubts
      exact ⟨by simp only; omega, by simp only; omega, by simp only; omega, by simp only; omega⟩
    · rw [writesS, if_pos hc] at he
      exact absurd he hc
  rw [forceD]
  by_cases hw2 : (writesS a (t1, t2)).2 = 0
  · have hFu := hF hw2
    rw [if_neg (by simp [hw2])]
    rw [hw2] at f2
    by_cases hw1 : (writesS a (t1, t2)).1 = 0
    · rw [if_pos hw1]
      rw [hw1] at f2
      clear hF hFu hw1 hw2
      obtain ⟨a1, a2, a3, a4⟩ := a
      simp only [stoC, txC, twoC, siteC, nilS, ansC, s0, List.map_nil] at f1 p1 f2 p2 ⊢
      simp (implicitDefEqProofs := false) (maxSteps := 10000000) [ir_part_Force, h1, h2, x1, x2, f1, p1, f2, p2]
    · rw [if_neg hw1]
      generalize (writesS a (t1, t2)).1 = w at hw1 f2
      by_cases hn2 : 60 ≤ ns.length
      · rw [if_pos hn2]
        have hn3 : (60 : Int) ≤ (ns.length : Int) := by omega
        clear hF hFu hw2
        obtain ⟨a1, a2, a3, a4⟩ := a
        simp only [stoC, txC, twoC, siteC, nilS, ansC, s0, List.map_nil] at f1 p1 f2 p2 ⊢
        simp (implicitDefEqProofs := false) (maxSteps := 10000000) [ir_part_Force, h1, h2, x1, x2, f1, p1, f2, p2, hw1, hn3]
      · rw [if_neg hn2]
        clear hF hw2
        generalize (endS a (t1, t2) yes).2 = e at f3
        generalize (endS a (t1, t2) yes).1 = u at f3 hFu
        have f5 := pown_F u [] [recC 6 (t1, t2) yes] [] ((ns ++ [(⟨t1, t2, yes, false⟩ : Nt)]).map ntC)
        have p5 := pown_pre hFu [] [recC 6 (t1, t2) yes] [] ((ns ++ [(⟨t1, t2, yes, false⟩ : Nt)]).map ntC)
        obtain ⟨a1, a2, a3, a4⟩ := a
        obtain ⟨u1, u2, u3, u4⟩ := u
        have hn3 : ¬ (60 : Int) ≤ (ns.length : Int) := by omega
        simp only [stoC, txC, twoC, siteC, nilS, ansC, recC, ntC, List.map_append, List.map_cons, List.map_nil] at f1 p1 f2 p2 f3 p3 f5 p5 ⊢
        simp (implicitDefEqProofs := false) (maxSteps := 10000000) [ir_part_Force, h1, h2, h3, h4, h5, x1, x2, x3, x4, x5, f1, p1, f2, p2, f3, p3, p4, Clone_F, f5, p5, hw1, hn3, ntC]
        omega
  · rw [if_pos hw2]
    generalize (writesS a (t1, t2)).2 = e at hw2 f2
    generalize (writesS a (t1, t2)).1 = w at f2
    clear hF
    obtain ⟨a1, a2, a3, a4⟩ := a
    simp only [stoC, txC, twoC, siteC, nilS, ansC, s0, List.map_nil] at f1 p1 f2 p2 ⊢
    simp (implicitDefEqProofs := false) (maxSteps := 10000000) [ir_part_Force, h1, h2, x1, x2, f1, p1, f2, p2, hw2]
end
end Go.Proofs.YtilahimnineigaaDoor
