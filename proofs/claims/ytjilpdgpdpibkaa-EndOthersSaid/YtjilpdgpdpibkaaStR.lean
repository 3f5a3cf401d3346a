/-
  EndOthers answers true on data. Conditions: those of its specification's 'pre', and that the functions that are called are what theirs say.
-/
import Derived.Test.YtjilpdgpdpibkaaStO
set_option linter.unusedVariables false
set_option linter.unusedSimpArgs false
namespace Go.Proofs.Ytjilpdgpdpibkaa
open Go Go.Vcg

def leftTo (t : Tx) (l : List Lk) (j : Nat) : List Lk := (l.take j).filter fun x => !isTx x.site x.n t
theorem leftTo_skip (t : Tx) (l : List Lk) {j : Nat} (h : j < l.length) (e : l[j].site = t.1 ∧ l[j].n = t.2) : leftTo t l (j + 1) = leftTo t l j := by
  rw [leftTo, List.take_succ_eq_append_getElem h, List.filter_append]
  simp [leftTo, isTx, e.1, e.2]
theorem leftTo_take (t : Tx) (l : List Lk) {j : Nat} (h : j < l.length) (e : ¬ (l[j].site = t.1 ∧ l[j].n = t.2)) : leftTo t l (j + 1) = leftTo t l j ++ [l[j]] := by
  have hb : isTx l[j].site l[j].n t = false := by rw [isTx, decide_eq_false_iff_not]; exact e
  rw [leftTo, List.take_succ_eq_append_getElem h, List.filter_append]
  simp [leftTo, hb]
theorem length_leftTo (t : Tx) (l : List Lk) (j : Nat) : (leftTo t l j).length ≤ l.length := by
  refine Nat.le_trans (List.length_filter_le _ _) ?_
  simp; omega
theorem leftTo_all (t : Tx) (l : List Lk) : leftTo t l l.length = l.filter fun x => !isTx x.site x.n t := by rw [leftTo, List.take_length]
def sp_EndOthers : Sp := { pre := fun ds => ∃ (l : List Rw) (a b : Int) (yes : Bool), ds = [rawsD l, .int .i64 a, .int .i64 b, .bool yes] ∧ okRaws l ∧ inR .i64 a ∧ inR .i64 b, F := fun _ => .bool true }
section
variable {T : Tb}
attribute [local simp] k_seq k_block k_skip k_reg k_alt k_cond k_exit k_ret kf_nil kf_seq_n kf_seq_e kf_seq_r kf_blk_n kf_blk_e kf_blk_r kf_lp_n kf_lp_e kf_lp_r kf_cut_n kf_cut_e kf_cut_r mkTm VCops VCalt istep act gd applyE wrapD Opd.ev get_mk set_mk set_mk0 tget16 tset16 tget_0 tset_0 tget_1 tset_1 tget_2 tset_2 tget_3 tset_3 tget_4 tset_4 tget_5 tset_5 tget_6 tset_6 tget_7 tset_7 tget_8 tset_8 tget_9 tset_9 tget_10 tset_10 tget_11 tset_11 tget_12 tset_12 tget_13 tset_13 tget_14 tset_14 tget_15 tset_15 D.un D.gu gus IOp.opds binD fnPost getRes IRes.get oneRes D.out outL D.clos closL D.norow norowL D.lv lvL D.scal scalL D.cells D.cell D.cell' St.lk obPut obDel List.lookup cut pickD splice fillParts fillRows elem_cons newsOf D.pl D.forget forgetL Ob.forget forgetO eqCells sg leD leDL leOb apartK St.le D.keys keysL D.rows rowsL obKeys addKeys reach pos D.ren renL Ob.ren inM outM inObs outObs goneK apartN okNames_eq okNms obNms namesOK_nil namesOK_cons freeOK_nil freeOK_cons D.frz frzL Ob.frz frzO St.frz forgetLs dropObs putObs hcall freeOf keeps baseN shD isShift shMax k_bad VCopsG frz_nil actx actc cnum vwCut St.frzT St.opnT St.clsT D.opn opnL Ob.opn opnO
set_option maxRecDepth 100000 in
set_option maxHeartbeats 8000000 in
theorem v_EndOthers (h1 : T.sp n_reredoskeep_Store = some sp_Store) (h2 : T.sp n_reredoskeep_picked = some sp_picked) (h3 : T.sp n_store_End = some sp_End) (h4 : T.sp n_reredoskeep_storeTells = some sp_tells) : Verified T ir_reredoskeep_EndOthers sp_EndOthers := by
  refine Verified.mk ?_
  rintro ds ⟨l, a, b, yes, rfl, hl, ha, hb⟩
  have x1 : sp_Store.hx = none := rfl
  have x2 : sp_picked.hx = none := rfl
  have x3 : sp_End.hx = none := rfl
  have x4 : sp_tells.hx = none := rfl
  have f1 : sp_Store.F [.fz 6 (l.map rawC), .int .i64 30] = _ := store_F l 30
  have p1 : sp_Store.pre [.fz 6 (l.map rawC), .int .i64 30] = True := store_pre hl (m := 30) (by decide)
  have hI := invK_store l (m := 30) (by decide)
  have hF := fewN_store l 30
  generalize storeK l 30 = s at f1 hI hF
  have b1 := pk_bounds a 2 (by decide)
  have q1 := pk_pre ha (m := 2) (by decide)
  have q1' := pk_F a 2
  generalize pk a 2 = A at b1 q1'
  have b2 := pk_bounds b 5 (by decide)
  have q2 := pk_pre hb (m := 5) (by decide)
  have q2' := pk_F b 5
  generalize pk b 5 = B at b2 q2'
  have r1 : inR .i64 (1 + B) := by simp only [inR]; omega
  obtain ⟨u, hp, -, -, -, -, -, hL, -⟩ := end_plain hI (t := (A, 1 + B)) (by simp only; omega) yes
  have f4 := end_F s (A, 1 + B) yes
  have p4 := end_pre (fewN_fewS' hF (by decide)) (A, 1 + B) yes
  rw [hp] at f4
  have f6 : sp_tells.F [] = .bool true := rfl
  have p6 : sp_tells.pre [] = True := by simp [sp_tells]
  have h20 := few20 hI
  clear hI hF hp
  obtain ⟨s1, s2, s3, s4⟩ := s
  obtain ⟨u1, u2, u3, u4⟩ := u
  simp only at hL h20
  have hA := leftTo_all (A, 1 + B) s2
  rw [← hL] at hA
  simp only [stoC, txC] at f1 f4 p4
  simp only [rawsD]
  simp (implicitDefEqProofs := false) (maxSteps := 10000000) [ir_reredoskeep_EndOthers, h1, x1, h2, x2, h3, x3, h4, x4, f1, p1, f4, p4, f6, p6, q1, q1', q2, q2', r1]
  refine k_loop (ι := {j : Nat // j ≤ s2.length}) (fun x => ⟨mkTm 76 0 [(10, .own 10 0), (11, .own 11 0), (12, .int .i64 0), (13, .row 204), (35, .fz 6 (s2.map lkC)), (36, .int .i64 s2.length), (37, .int .i64 x.1)], [(10, .box [.int .i64 A, .int .i64 (1 + B)]), (11, .box [.fz 3 (u1.map itC), .fz 6 (u2.map lkC), .fz 3 (u3.map dbC), .fz 2 (u4.map txC)]), (204, .row 6 ((leftTo (A, 1 + B) s2 x.1).map lkC))]⟩)
    (fun x => s2.length - x.1) [(204, none)] ⟨0, by omega⟩ (by simp (implicitDefEqProofs := false) (maxSteps := 10000000) [leftTo]) ?_
  rintro ⟨j, hj⟩ P hQ
  by_cases hjl : j < s2.length
  · have hjl' : (j : Int) < s2.length := by omega
    have hel := elem_map lkC s2 j hjl
    have hsk := leftTo_skip (A, 1 + B) s2 hjl
    have hst := leftTo_take (A, 1 + B) s2 hjl
    have hln := length_leftTo (A, 1 + B) s2 j
    generalize s2[j] = x at hel hst hsk
    obtain ⟨a1, a2, k, w, v, q⟩ := x
    simp only [lkC] at hel
    simp only at hst hsk
    by_cases e1 : a1 = A ∧ a2 = 1 + B
    · have hst2 := hsk e1
      clear hst hsk
      obtain ⟨rfl, rfl⟩ := e1
      simp (implicitDefEqProofs := false) (maxSteps := 10000000) [ir_reredoskeep_EndOthers_b0, hjl', hjl, hel]
      exact ⟨by simp only [inR]; omega, hQ _ [] ⟨j + 1, by omega⟩ (by simp (implicitDefEqProofs := false) (maxSteps := 10000000) [hst2]) (by simp only; omega)⟩
    · have hst := hst e1
      have e2 : a1 = A → ¬ a2 = 1 + B := fun h h' => e1 ⟨h, h'⟩
      simp (implicitDefEqProofs := false) (maxSteps := 10000000) [ir_reredoskeep_EndOthers_b0, hjl', hjl, hel, e1]
      exact fun _ => ⟨⟨by omega, by omega⟩, by simp only [inR]; omega, hQ _ [(204, some 48)] ⟨j + 1, by omega⟩ (by simp (implicitDefEqProofs := false) (maxSteps := 10000000) [hst, lkC]) (by simp only; omega)⟩
  · have hjn : j = s2.length := by omega
    subst hjn
    clear hQ
    simp only [hA]
    simp (implicitDefEqProofs := false) (maxSteps := 10000000) [ir_reredoskeep_EndOthers_b0, ir_reredoskeep_EndOthers_r3]
    have h20' : u2.length ≤ s2.length := by rw [hL]; exact List.length_filter_le _ _
    refine k_loop (ι := {j : Nat // j ≤ u2.length}) (fun x => ⟨mkTm 76 0 [(11, .own 11 0), (13, .row 204), (61, .int .i64 u2.length), (62, .int .i64 x.1)], [(11, .box [.fz 3 (u1.map itC), .fz 6 (u2.map lkC), .fz 3 (u3.map dbC), .fz 2 (u4.map txC)]), (204, .row 6 (u2.map lkC))]⟩)
      (fun x => u2.length - x.1) [] ⟨0, by omega⟩ (by simp (implicitDefEqProofs := false) (maxSteps := 10000000)) ?_
    rintro ⟨m, hm⟩ Q hR
    by_cases hml : m < u2.length
    · have hml' : (m : Int) < u2.length := by omega
      have hel := elem_map lkC u2 m hml
      generalize u2[m] = x at hel
      obtain ⟨a1, a2, k, w, v, q⟩ := x
      simp only [lkC] at hel
      simp (implicitDefEqProofs := false) (maxSteps := 10000000) [ir_reredoskeep_EndOthers_b1, hml', hml, hel]
      exact ⟨by simp only [inR]; omega, hR _ [] ⟨m + 1, by omega⟩ (by simp (implicitDefEqProofs := false) (maxSteps := 10000000)) (by simp only; omega)⟩
    · have hmn : m = u2.length := by omega
      subst hmn
      clear hR
      simp (implicitDefEqProofs := false) (maxSteps := 10000000) [ir_reredoskeep_EndOthers_b1, ir_reredoskeep_EndOthers_r2]
      all_goals exact rfl
end
end Go.Proofs.Ytjilpdgpdpibkaa
