/-
  part.Tick computes what its specification says. Conditions: those of its specification's 'pre', and that the functions that are called are what theirs say.
-/
import Derived.Test.YtjilpdgpdpibkaaPtA
import Derived.Test.YtjilpdgpdpibkaaSt7
set_option linter.unusedVariables false
set_option linter.unusedSimpArgs false
namespace Go.Proofs.Ytjilpdgpdpibkaa
open Go Go.Vcg

/-- Who is in doubt asks. -/
def askC (me : Int) (t : Tx) : List D := [.int .i64 9, .int .i64 me, .int .i64 t.1, .int .i64 t.1, .int .i64 t.2, .int .i64 0, .int .i64 0, .int .i64 0, .int .i64 0, .int .i64 0, .bool false, .int .i64 0]
def asks (S me : Int) (l : List Tx) : List (List D) := (l.filter fun t => decide (t.1 < S)).map (askC me)
theorem asks_take (S me : Int) (l : List Tx) {j : Nat} (h : j < l.length) (e : l[j].1 < S) : asks S me (l.take (j + 1)) = asks S me (l.take j) ++ [askC me l[j]] := by
  rw [asks, List.take_succ_eq_append_getElem h, List.filter_append]
  simp [asks, e]
theorem asks_skip (S me : Int) (l : List Tx) {j : Nat} (h : j < l.length) (e : ¬ l[j].1 < S) : asks S me (l.take (j + 1)) = asks S me (l.take j) := by
  rw [asks, List.take_succ_eq_append_getElem h, List.filter_append]
  simp [asks, e]
theorem length_asks (S me : Int) (l : List Tx) (j : Nat) : (asks S me (l.take j)).length ≤ l.length := by
  rw [asks, List.length_map]
  refine Nat.le_trans (List.length_filter_le _ _) ?_
  simp; omega
noncomputable def tickD (S P l me : Int) (a : Sto) : D := if l = 2 then .tup [.agg (ansC s0 [] [] []), .int .i64 6] else .tup [.agg (ansC (ageS a P).1.1 (asks S me (ageS a P).1.2) [] []), .int .i64 0]
noncomputable def sp_Tick : Sp := { pre := fun ds => ∃ (S P l me : Int) (a : Sto), ds = [.agg (twoC S P), .int .i64 l, .int .i64 me, .fz 4 [stoC a, nilS]] ∧ (1 ≤ S ∧ S ≤ 4) ∧ (1 ≤ P ∧ P ≤ 1048576) ∧ (l = 0 ∨ l = 2) ∧ (0 ≤ me ∧ me < S) ∧ OkS a ∧ fewS' a, F := fun | [.agg [.int _ S, _, .int _ P], .int _ l, .int _ me, .fz _ [a, _]] => tickD S P l me (stoOf (.agg a)) | _ => .any }
theorem tick_F (S P l me : Int) (a : Sto) : sp_Tick.F [.agg (twoC S P), .int .i64 l, .int .i64 me, .fz 4 [stoC a, nilS]] = tickD S P l me a := by
  have e : D.agg (stoC a) = stoD a := rfl
  simp only [sp_Tick, twoC, e, stoOf_stoD]
theorem tick_pre {S P l me : Int} {a : Sto} (hS : 1 ≤ S ∧ S ≤ 4) (hP : 1 ≤ P ∧ P ≤ 1048576) (hl : l = 0 ∨ l = 2) (hme : 0 ≤ me ∧ me < S) (h1 : OkS a) (h2 : fewS' a) : sp_Tick.pre [.agg (twoC S P), .int .i64 l, .int .i64 me, .fz 4 [stoC a, nilS]] = True := by
  simp only [sp_Tick, eq_iff_iff, iff_true]; exact ⟨S, P, l, me, a, rfl, hS, hP, hl, hme, h1, h2⟩
theorem age_ok {a : Sto} {P : Int} (h : OkS a) (hP : 1 ≤ P ∧ P ≤ 1048576) : ageS a P = (({ a with doubts := a.doubts.map (bump P) }, toldL P a.doubts), 0) := by
  rw [ageS, if_neg (by simp [(okS_iff a).2 h]), if_neg (by simpa using hP)]
section
variable {T : Tb}
attribute [local simp] k_seq k_block k_skip k_reg k_alt k_cond k_exit k_ret kf_nil kf_seq_n kf_seq_e kf_seq_r kf_blk_n kf_blk_e kf_blk_r kf_lp_n kf_lp_e kf_lp_r kf_cut_n kf_cut_e kf_cut_r mkTm VCops VCalt istep act gd applyE wrapD Opd.ev get_mk set_mk set_mk0 tget16 tset16 tget_0 tset_0 tget_1 tset_1 tget_2 tset_2 tget_3 tset_3 tget_4 tset_4 tget_5 tset_5 tget_6 tset_6 tget_7 tset_7 tget_8 tset_8 tget_9 tset_9 tget_10 tset_10 tget_11 tset_11 tget_12 tset_12 tget_13 tset_13 tget_14 tset_14 tget_15 tset_15 D.un D.gu gus IOp.opds binD fnPost getRes IRes.get oneRes D.out outL D.clos closL D.norow norowL D.lv lvL D.scal scalL D.cells D.cell D.cell' St.lk obPut obDel List.lookup cut pickD splice fillParts fillRows elem_cons newsOf D.pl D.forget forgetL Ob.forget forgetO eqCells sg leD leDL leOb apartK St.le D.keys keysL D.rows rowsL obKeys addKeys reach pos D.ren renL Ob.ren inM outM inObs outObs goneK apartN okNames_eq okNms obNms namesOK_nil namesOK_cons freeOK_nil freeOK_cons D.frz frzL Ob.frz frzO St.frz forgetLs dropObs putObs hcall freeOf keeps baseN shD isShift shMax k_bad VCopsG frz_nil actx actc cnum vwCut St.frzT St.opnT St.clsT D.opn opnL Ob.opn opnO
set_option maxRecDepth 100000 in
set_option maxHeartbeats 8000000 in
theorem v_Tick (h1 : T.sp n_part_site_check = some sp_site) (h2 : T.sp n_store_Age = some sp_Age) (h3 : T.sp n_part_own = some sp_pown) : Verified T ir_part_Tick sp_Tick := by
  refine Verified.mk ?_
  rintro ds ⟨S, P, l, me, a, rfl, hS, hP, hl, hme, oa, fa⟩
  rw [tick_F, tickD]
  have x1 : sp_site.hx = none := rfl
  have x2 : sp_Age.hx = none := rfl
  have x3 : sp_pown.hx = none := rfl
  have o0 : OkS s0 := (okS_iff _).1 okS_s0
  have f1 := site_F S P l me (stoC a) nilS
  have p1 := site_pre (x := stoC a) (y := nilS) hS hP (l := l) (by omega) hme (.inl rfl) (.inr ⟨rfl, rfl⟩) oa o0 (fewS'_fewS fa) (by simp [fewS, s0])
  have f2 := age_F a P
  have p2 := age_pre fa P
  rcases hl with rfl | rfl
  · rw [if_neg (by omega)] at f1
    rw [if_neg (by omega)]
    have hlen : (ageS a P).1.2.length ≤ 10000 := by
      rw [age_ok oa hP]
      simp only [toldL, List.length_map]
      exact Nat.le_trans (List.length_filter_le _ _) fa.2.2.1
    have hfu : fewS (ageS a P).1.1 := by
      rw [age_ok oa hP]
      obtain ⟨g1, g2, g3, g4⟩ := fa
      exact ⟨by simp only; omega, by simp only; omega, by simp; omega, by simp only; omega⟩
    have h0 : (ageS a P).2 = 0 := by rw [age_ok oa hP]
    rw [h0] at f2
    have f3 := pown_F (ageS a P).1.1 (asks S me (ageS a P).1.2) [] [] []
    have p3 := pown_pre hfu (asks S me (ageS a P).1.2) [] [] []
    generalize (ageS a P).1.1 = u at f2 f3 p3
    generalize (ageS a P).1.2 = told at f2 f3 p3 hlen
    clear h0 hfu
    obtain ⟨a1, a2, a3, a4⟩ := a
    obtain ⟨u1, u2, u3, u4⟩ := u
    simp only [stoC, twoC, siteC, nilS, ansC] at f1 p1 f2 p2 f3 p3 ⊢
    simp (implicitDefEqProofs := false) (maxSteps := 10000000) [ir_part_Tick, h1, h2, x1, x2, f1, p1, f2, p2]
    refine k_loop (ι := {j : Nat // j ≤ told.length}) (fun x => ⟨mkTm 67 0 [(2, .int .i64 me), (4, .own 4 0), (8, .own 8 0), (9, .int .i64 0), (15, .own 15 0), (43, .fz 2 (told.map txC)), (44, .int .i64 told.length), (45, .int .i64 x.1)], [(4, .box [.int .i64 S, .fz 2 [[.int .i64 0, .int .i64 0], [.int .i64 1, .int .i64 0]], .int .i64 P]), (8, .box [.nl 3, .nl 6, .nl 3, .nl 2, .nl 12, .nl 8, .nl 4]), (15, .box [.fz 3 (u1.map itC), .fz 6 (u2.map lkC), .fz 3 (u3.map dbC), .fz 2 (u4.map txC), .row 204, .nl 8, .nl 4]), (204, .row 12 (asks S me (told.take x.1)))]⟩)
      (fun x => told.length - x.1) [(204, none)] ⟨0, by omega⟩ (by simp (implicitDefEqProofs := false) (maxSteps := 10000000) [asks]) ?_
    rintro ⟨j, hj⟩ Q hQ
    by_cases hjl : j < told.length
    · have hjl' : (j : Int) < told.length := by omega
      have hel := elem_map txC told j hjl
      have htk := asks_take S me told hjl
      have hsk := asks_skip S me told hjl
      have hln := length_asks S me told j
      generalize told[j] = x at hel htk hsk
      obtain ⟨y1, y2⟩ := x
      simp only [txC] at hel
      simp only at htk hsk
      by_cases e1 : y1 < S
      · have hst := htk e1
        clear htk hsk
        simp (implicitDefEqProofs := false) (maxSteps := 10000000) [ir_part_Tick_b0, hjl', hjl, hel, e1]
        exact ⟨⟨by omega, by omega⟩, by simp only [inR]; omega, hQ _ [(204, some 62)] ⟨j + 1, by omega⟩ (by simp (implicitDefEqProofs := false) (maxSteps := 10000000) [hst, askC]) (by simp only; omega)⟩
      · have hst := hsk e1
        clear htk hsk
        simp (implicitDefEqProofs := false) (maxSteps := 10000000) [ir_part_Tick_b0, hjl', hjl, hel, e1]
        exact ⟨by simp only [inR]; omega, hQ _ [] ⟨j + 1, by omega⟩ (by simp (implicitDefEqProofs := false) (maxSteps := 10000000) [hst]) (by simp only; omega)⟩
    · have hjn : j = told.length := by omega
      subst hjn
      clear hQ
      simp only [List.take_length]
      simp (implicitDefEqProofs := false) (maxSteps := 10000000) [ir_part_Tick_b0, ir_part_Tick_r1, h3, x3, f3, p3]
  · rw [if_pos rfl] at f1
    rw [if_pos rfl]
    clear f2 p2
    obtain ⟨a1, a2, a3, a4⟩ := a
    simp only [stoC, twoC, siteC, nilS, ansC] at f1 p1 ⊢
    simp (implicitDefEqProofs := false) (maxSteps := 10000000) [ir_part_Tick, s0, h1, x1, f1, p1]
end
end Go.Proofs.Ytjilpdgpdpibkaa
