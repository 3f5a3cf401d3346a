/-
  ForgetReads answers true on data. Conditions: those of its specification's 'pre', and that the functions that are called are what theirs say.
-/
import Derived.Test.YtjilpdgpdpibkaaStW
import Derived.Test.YtjilpdgpdpibkaaStJ
set_option linter.unusedVariables false
set_option linter.unusedSimpArgs false
namespace Go.Proofs.Ytjilpdgpdpibkaa
open Go Go.Vcg

theorem bump_tx (p : Int) (d : Db) : (bump p d).site = d.site ∧ (bump p d).n = d.n := by
  unfold bump
  split <;> exact ⟨rfl, rfl⟩
theorem fgtG_iff {L : List Lk} {d : Db} : (!(fgtG L d)) = true ↔ ∃ x ∈ L, x.site = d.site ∧ x.n = d.n := by
  simp [fgtG, isTx]
theorem okS_forget {s : Sto} (h : OkS s) : ∃ u, forgetS s = (u, 0) ∧ OkS u ∧ u.items = s.items ∧ u.locks = s.locks.filter (fun x => !(!x.wr)) ∧ u.doubts.length ≤ s.doubts.length ∧ u.over = s.over := by
  have hok := (okS_iff s).2 h
  refine ⟨⟨s.items, s.locks.filter (fun x => !(!x.wr)), (s.doubts.filter (fun d => !(fgtG (s.locks.filter (fun x => !(!x.wr))) d))).map (bump 0), s.over⟩, by rw [forgetS, if_neg (by simp [hok])], ?_, rfl, rfl, ?_, rfl⟩
  · refine ⟨h.items, h.sorted, ?_, ?_, h.over, h.over1, ?_, h.locks1.sublist List.filter_sublist, Nat.le_trans (List.length_filter_le _ _) h.few⟩
    · intro x hx
      simp only [List.mem_map, List.mem_filter] at hx
      obtain ⟨d, ⟨hd, hg⟩, rfl⟩ := hx
      obtain ⟨g1, g2, g3, g4, _⟩ := okDb_iff.1 (h.doubts d hd)
      obtain ⟨y, hy, e1, e2⟩ := fgtG_iff.1 hg
      have hb : bump 0 d = ⟨d.site, d.n, 0⟩ := by rw [bump, if_pos (by omega)]
      rw [hb, okDb_iff]
      exact ⟨g1, by simp, by simp, g4, y, hy, e1, e2⟩
    · rw [List.pairwise_map]
      refine (h.doubts1.sublist List.filter_sublist).imp ?_
      intro a b hab hs
      refine hab ?_
      simp only [sameD, (bump_tx 0 a).1, (bump_tx 0 a).2, (bump_tx 0 b).1, (bump_tx 0 b).2] at hs
      exact hs
    · intro x hx
      have hx' := hx
      simp only [List.mem_filter] at hx
      obtain ⟨⟨d, hd, e1, e2⟩, hr⟩ := okLk_iff.1 (h.locks x hx.1)
      rw [okLk_iff]
      refine ⟨⟨bump 0 d, ?_, by rw [(bump_tx 0 d).1, e1], by rw [(bump_tx 0 d).2, e2]⟩, hr⟩
      simp only [List.mem_map, List.mem_filter]
      exact ⟨d, ⟨hd, fgtG_iff.2 ⟨x, List.mem_filter.2 ⟨hx.1, hx.2⟩, e1.symm, e2.symm⟩⟩, rfl⟩
  · simp only [List.length_map]
    exact List.length_filter_le _ _
def badS : Sto := ⟨[], [⟨0, 0, 0, false, 0, 0⟩], [], []⟩
theorem forget_bad : forgetS badS = (s0, 9) := by
  have hb : okS badS = false := by
    cases hok : okS badS
    · rfl
    · have h := (okS_iff _).1 hok
      obtain ⟨⟨d, hd, _⟩, _⟩ := okLk_iff.1 (h.locks ⟨0, 0, 0, false, 0, 0⟩ (by simp [badS]))
      simp [badS] at hd
  rw [forgetS, if_pos hb]
def wTo (l : List Lk) (j : Nat) : List Lk := (l.take j).filter (fun x => !(!x.wr))
theorem wTo_take (l : List Lk) {j : Nat} (h : j < l.length) (e : l[j].wr = true) : (wTo l (j + 1)).length = (wTo l j).length + 1 := by
  rw [wTo, List.take_succ_eq_append_getElem h, List.filter_append]
  simp [wTo, e]
theorem wTo_skip (l : List Lk) {j : Nat} (h : j < l.length) (e : l[j].wr = false) : (wTo l (j + 1)).length = (wTo l j).length := by
  rw [wTo, List.take_succ_eq_append_getElem h, List.filter_append]
  simp [wTo, e]
theorem wTo_get (l : List Lk) {j : Nat} (h : j < l.length) (e : l[j].wr = true) : (wTo l j).length < (l.filter (fun x => !(!x.wr))).length ∧ elem ((l.filter (fun x => !(!x.wr))).map lkC) (wTo l j).length = lkC l[j] := by
  have e1 : l.filter (fun x => !(!x.wr)) = wTo l j ++ l[j] :: (l.drop (j + 1)).filter (fun x => !(!x.wr)) := by
    have h2 : l = l.take j ++ l[j] :: l.drop (j + 1) := by
      rw [← List.drop_eq_getElem_cons h, List.take_append_drop]
    have h3 : l.filter (fun x => !(!x.wr)) = (l.take j ++ l[j] :: l.drop (j + 1)).filter (fun x => !(!x.wr)) := congrArg _ h2
    rw [h3, List.filter_append, List.filter_cons_of_pos (by simp [e])]
    rfl
  rw [e1]
  refine ⟨by simp, ?_⟩
  rw [List.map_append, List.map_cons]
  simp [elem]
theorem wTo_le (l : List Lk) (j : Nat) : (wTo l j).length ≤ l.length := by
  refine Nat.le_trans (List.length_filter_le _ _) ?_
  simp; omega
def sp_ForgetReads : Sp := { pre := fun ds => ∃ l : List Rw, ds = [rawsD l] ∧ okRaws l, F := fun _ => .bool true }
section
variable {T : Tb}
attribute [local simp] k_seq k_block k_skip k_reg k_alt k_cond k_exit k_ret kf_nil kf_seq_n kf_seq_e kf_seq_r kf_blk_n kf_blk_e kf_blk_r kf_lp_n kf_lp_e kf_lp_r kf_cut_n kf_cut_e kf_cut_r mkTm VCops VCalt istep act gd applyE wrapD Opd.ev get_mk set_mk set_mk0 tget16 tset16 tget_0 tset_0 tget_1 tset_1 tget_2 tset_2 tget_3 tset_3 tget_4 tset_4 tget_5 tset_5 tget_6 tset_6 tget_7 tset_7 tget_8 tset_8 tget_9 tset_9 tget_10 tset_10 tget_11 tset_11 tget_12 tset_12 tget_13 tset_13 tget_14 tset_14 tget_15 tset_15 D.un D.gu gus IOp.opds binD fnPost getRes IRes.get oneRes D.out outL D.clos closL D.norow norowL D.lv lvL D.scal scalL D.cells D.cell D.cell' St.lk obPut obDel List.lookup cut pickD splice fillParts fillRows elem_cons newsOf D.pl D.forget forgetL Ob.forget forgetO eqCells sg leD leDL leOb apartK St.le D.keys keysL D.rows rowsL obKeys addKeys reach pos D.ren renL Ob.ren inM outM inObs outObs goneK apartN okNames_eq okNms obNms namesOK_nil namesOK_cons freeOK_nil freeOK_cons D.frz frzL Ob.frz frzO St.frz forgetLs dropObs putObs hcall freeOf keeps baseN shD isShift shMax k_bad VCopsG frz_nil actx actc cnum vwCut St.frzT St.opnT St.clsT D.opn opnL Ob.opn opnO
set_option maxRecDepth 100000 in
set_option maxHeartbeats 8000000 in
theorem v_ForgetReads (h1 : T.sp n_reredoskeep_Store = some sp_Store) (h2 : T.sp n_store_Check = some sp_SCheck) (h3 : T.sp n_store_Forget = some sp_Forget) : Verified T ir_reredoskeep_ForgetReads sp_ForgetReads := by
  refine Verified.mk ?_
  rintro ds ⟨l, rfl, hl⟩
  have x1 : sp_Store.hx = none := rfl
  have x2 : sp_SCheck.hx = none := rfl
  have x3 : sp_Forget.hx = none := rfl
  have f1 : sp_Store.F [.fz 6 (l.map rawC), .int .i64 40] = _ := store_F l 40
  have p1 : sp_Store.pre [.fz 6 (l.map rawC), .int .i64 40] = True := store_pre hl (m := 40) (by decide)
  have hI := invK_store l (m := 40) (by decide)
  have hF := fewN_store l 40
  generalize storeK l 40 = s at f1 hI hF
  obtain ⟨u, hp, hu, g1, g2, g3, g4⟩ := okS_forget hI.ok
  have f2 := forget_F s
  have p2 := forget_pre (fewN_fewS' hF (by decide))
  rw [hp] at f2
  have hfu : fewS u := by
    obtain ⟨n1, n2, n3, n4⟩ := hF
    have h2 : u.locks.length ≤ s.locks.length := by rw [g2]; exact List.length_filter_le _ _
    exact ⟨by rw [g1]; omega, by omega, by omega, by rw [g4]; omega⟩
  have f3 := chk_F' hu
  have p3 := chk_pre hfu
  have f4 := forget_F badS
  have p4 := forget_pre (s := badS) ⟨by simp [badS], by simp [badS], by simp [badS], by simp [badS]⟩
  rw [forget_bad] at f4
  have h20 := few20 hI
  clear hI hF hp hu hfu g3
  obtain ⟨s1, s2, s3, s4⟩ := s
  obtain ⟨u1, u2, u3, u4⟩ := u
  simp only at g1 g2 g4 h20
  subst g1 g4
  have hget := fun (j : Nat) (h : j < s2.length) (e : s2[j].wr = true) => wTo_get s2 h e
  have htk := fun (j : Nat) (h : j < s2.length) (e : s2[j].wr = true) => wTo_take s2 h e
  have hsk := fun (j : Nat) (h : j < s2.length) (e : s2[j].wr = false) => wTo_skip s2 h e
  have hall : (wTo s2 s2.length).length = u2.length := by rw [wTo, List.take_length, g2]
  have hle := wTo_le s2
  have h0 : (wTo s2 0).length = 0 := by simp [wTo]
  rw [← g2] at hget
  clear g2
  simp only [stoC, badS, s0, lkC, List.map_cons, List.map_nil] at f1 f2 p2 f3 p3 f4 p4
  simp only [rawsD]
  simp (implicitDefEqProofs := false) (maxSteps := 10000000) [ir_reredoskeep_ForgetReads, h1, x1, h2, x2, h3, x3, f1, p1, f2, p2, f3, p3]
  refine k_loop (ι := {j : Nat // j ≤ s2.length}) (fun x => ⟨mkTm 76 0 [(4, .own 4 0), (6, .int .i64 ((wTo s2 x.1).length : Nat)), (35, .fz 6 (s2.map lkC)), (36, .int .i64 s2.length), (37, .int .i64 x.1)], [(4, .box [.fz 3 (u1.map itC), .fz 6 (u2.map lkC), .fz 3 (u3.map dbC), .fz 2 (u4.map txC)])]⟩)
    (fun x => s2.length - x.1) [] ⟨0, by omega⟩ (by simp (implicitDefEqProofs := false) (maxSteps := 10000000) [h0]) ?_
  rintro ⟨j, hj⟩ Q hQ
  by_cases hjl : j < s2.length
  · have hjl' : (j : Int) < s2.length := by omega
    have hel := elem_map lkC s2 j hjl
    have hA := hget j hjl
    have hB := htk j hjl
    have hC := hsk j hjl
    have hln := hle j
    have hgo : ∀ n : Nat, n = (wTo s2 (j + 1)).length → ∀ s', (∃ σ, St.le σ s' ⟨mkTm 76 0 [(4, .own 4 0), (6, .int .i64 (n : Nat)), (35, .fz 6 (s2.map lkC)), (36, .int .i64 s2.length), (37, .int .i64 (j + 1 : Nat))], [(4, .box [.fz 3 (u1.map itC), .fz 6 (u2.map lkC), .fz 3 (u3.map dbC), .fz 2 (u4.map txC)])]⟩) → Q s' := by
      rintro n rfl s' ⟨σ, hs'⟩
      exact hQ s' σ ⟨j + 1, by omega⟩ hs' (by simp only; omega)
    clear hQ hget htk hsk hle h0 hall
    simp only
    generalize (wTo s2 (j + 1)).length = N2 at hB hC hgo
    generalize (wTo s2 j).length = N1 at hA hB hC hln ⊢
    generalize s2[j] = x at hel hA hB hC
    obtain ⟨a1, a2, k, w, v, q⟩ := x
    simp only [lkC] at hel hA
    simp only at hB hC
    cases w
    · have hn := hgo N1 (hC rfl).symm
      clear hA hB hC hgo
      simp (implicitDefEqProofs := false) (maxSteps := 10000000) [ir_reredoskeep_ForgetReads_b0, hjl', hjl, hel]
      exact ⟨by simp only [inR]; omega, hn _ ⟨[], by simp (implicitDefEqProofs := false) (maxSteps := 10000000)⟩⟩
    · have hn := hgo (N1 + 1) (hB rfl).symm
      obtain ⟨hA1, hA2⟩ := hA rfl
      clear hA hB hC hgo
      have hA3 : ¬ (N1 : Int) = u2.length := by omega
      have hA4 : ¬ N1 = u2.length := by omega
      simp (implicitDefEqProofs := false) (maxSteps := 10000000) [ir_reredoskeep_ForgetReads_b0, hjl', hjl, hel, hA1, hA2, hA3, hA4]
      exact ⟨by simp only [inR]; omega, by simp only [inR]; omega, hn _ ⟨[], by simp (implicitDefEqProofs := false) (maxSteps := 10000000)⟩⟩
  · have hjn : j = s2.length := by omega
    subst hjn
    clear hQ hget htk hsk
    simp only [hall]
    simp (implicitDefEqProofs := false) (maxSteps := 10000000) [ir_reredoskeep_ForgetReads_b0, ir_reredoskeep_ForgetReads_r1, h3, x3, f4, p4]
    all_goals exact rfl
end
end Go.Proofs.Ytjilpdgpdpibkaa
