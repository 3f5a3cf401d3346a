/-
  EndAll answers true on data. Conditions: those of its specification's 'pre', and that the functions that are called are what theirs say.
-/
import Derived.Test.YtjilpdgpdpibkaaStL
set_option linter.unusedVariables false
set_option linter.unusedSimpArgs false
namespace Go.Proofs.Ytjilpdgpdpibkaa
open Go Go.Vcg

theorem end_plain {s : Sto} (h : InvK 30 s) {t : Tx} (ht : 0 ≤ t.1 ∧ t.1 < 2 ∧ 1 ≤ t.2 ∧ t.2 ≤ 5) (yes : Bool) : ∃ u, endS s t yes = (u, 0) ∧ OkS u ∧ noTx u t ∧ endS u t (!yes) = (u, 0) ∧ readS u t 7 = (s0, 0, 0, 13) ∧ writeS u t 7 1 1 = (s0, 13) ∧ u.locks = s.locks.filter (fun x => !isTx x.site x.n t) ∧ wrN u.locks t = 0 := by
  have ht' : okTx t.1 t.2 = true := okTx_of ⟨ht.1, by omega⟩ ⟨ht.2.2.1, by omega⟩
  have c0 : callE s t 0 = 0 := callE_ok ((okS_iff s).2 h.ok) ht' ⟨by omega, by omega⟩
  have hu := okS_end h.ok ht' yes (K := 5) (m := (24 * 30 : Nat)) (by omega) (by omega) h.its (fun x hx => (h.lks x hx).1)
  have hE : endS s t yes = ((endS s t yes).1, 0) := by rw [endS, if_neg (by simp [c0])]
  have h1 : (endS s t yes).1.locks = s.locks.filter (fun x => !isTx x.site x.n t) := by rw [endS, if_neg (by simp [c0])]
  have h2 : (endS s t yes).1.doubts = s.doubts.filter (fun x => !isTx x.site x.n t) := by rw [endS, if_neg (by simp [c0])]
  have h3 : (endS s t yes).1.over = overL s.over t := by rw [endS, if_neg (by simp [c0])]
  generalize (endS s t yes).1 = u at hu hE h1 h2 h3
  have hn : noTx u t := by
    intro x hx
    rw [h1, List.mem_filter] at hx
    simpa using hx.2
  have ho : overB u t = true := over_iff.2 (by rw [h3]; exact mem_overL.2 (.inr rfl))
  have hu' := (okS_iff u).2 hu
  have c1 : callE u t 0 = 0 := callE_ok hu' ht' ⟨by omega, by omega⟩
  have c7 : callE u t 7 = 0 := callE_ok hu' ht' ⟨by omega, by omega⟩
  have hl := lockI_noTx hn 7
  refine ⟨u, hE, hu, hn, ?_, ?_, ?_, h1, ?_⟩
  · rw [endS, if_neg (by simp [c1]), endIts_others t (!yes) u.locks u.items hn]
    have e1 : u.locks.filter (fun x => !isTx x.site x.n t) = u.locks := by
      rw [h1, List.filter_filter]
      simp
    have e2 : u.doubts.filter (fun x => !isTx x.site x.n t) = u.doubts := by
      rw [h2, List.filter_filter]
      simp
    have e3 : overL u.over t = u.over := by
      rw [overL, if_pos]
      exact ho
    rw [e1, e2, e3]
  · rw [readS, if_neg (by simp [c7]), if_neg (by omega), if_pos ho]
  · rw [writeS, if_neg (by simp [c7]), if_neg (by simp [okVQ]), if_pos (.inl ho)]
  · rw [wrN, List.countP_eq_zero]
    intro x hx
    simp [hn x hx]
def sp_EndAll : Sp := { pre := fun ds => ∃ (l : List Rw) (a b : Int) (yes : Bool), ds = [rawsD l, .int .i64 a, .int .i64 b, .bool yes] ∧ okRaws l ∧ inR .i64 a ∧ inR .i64 b, F := fun _ => .bool true }
section
variable {T : Tb}
attribute [local simp] k_seq k_block k_skip k_reg k_alt k_cond k_exit k_ret kf_nil kf_seq_n kf_seq_e kf_seq_r kf_blk_n kf_blk_e kf_blk_r kf_lp_n kf_lp_e kf_lp_r kf_cut_n kf_cut_e kf_cut_r mkTm VCops VCalt istep act gd applyE wrapD Opd.ev get_mk set_mk set_mk0 tget16 tset16 tget_0 tset_0 tget_1 tset_1 tget_2 tset_2 tget_3 tset_3 tget_4 tset_4 tget_5 tset_5 tget_6 tset_6 tget_7 tset_7 tget_8 tset_8 tget_9 tset_9 tget_10 tset_10 tget_11 tset_11 tget_12 tset_12 tget_13 tset_13 tget_14 tset_14 tget_15 tset_15 D.un D.gu gus IOp.opds binD fnPost getRes IRes.get oneRes D.out outL D.clos closL D.norow norowL D.lv lvL D.scal scalL D.cells D.cell D.cell' St.lk obPut obDel List.lookup cut pickD splice fillParts fillRows elem_cons newsOf D.pl D.forget forgetL Ob.forget forgetO eqCells sg leD leDL leOb apartK St.le D.keys keysL D.rows rowsL obKeys addKeys reach pos D.ren renL Ob.ren inM outM inObs outObs goneK apartN okNames_eq okNms obNms namesOK_nil namesOK_cons freeOK_nil freeOK_cons D.frz frzL Ob.frz frzO St.frz forgetLs dropObs putObs hcall freeOf keeps baseN shD isShift shMax k_bad VCopsG frz_nil actx actc cnum vwCut St.frzT St.opnT St.clsT D.opn opnL Ob.opn opnO
set_option maxRecDepth 100000 in
set_option maxHeartbeats 8000000 in
theorem v_EndAll (h1 : T.sp n_reredoskeep_Store = some sp_Store) (h2 : T.sp n_store_Check = some sp_SCheck) (h3 : T.sp n_store_Write = some sp_Write) (h4 : T.sp n_reredoskeep_picked = some sp_picked) (h5 : T.sp n_store_Read = some sp_Read) (h6 : T.sp n_store_End = some sp_End) (h7 : T.sp n_store_Writes = some sp_Writes) (h8 : T.sp n_reredoskeep_sameStore = some sp_same) : Verified T ir_reredoskeep_EndAll sp_EndAll := by
  refine Verified.mk ?_
  rintro ds ⟨l, a, b, yes, rfl, hl, ha, hb⟩
  have x1 : sp_Store.hx = none := rfl
  have x2 : sp_SCheck.hx = none := rfl
  have x3 : sp_Write.hx = none := rfl
  have x4 : sp_picked.hx = none := rfl
  have x5 : sp_Read.hx = none := rfl
  have x6 : sp_End.hx = none := rfl
  have x7 : sp_Writes.hx = none := rfl
  have x8 : sp_same.hx = none := rfl
  have f1 : sp_Store.F [.fz 6 (l.map rawC), .int .i64 30] = _ := store_F l 30
  have p1 : sp_Store.pre [.fz 6 (l.map rawC), .int .i64 30] = True := store_pre hl (m := 30) (by decide)
  have hI := invK_store l (m := 30) (by decide)
  have hF := fewN_store l 30
  generalize storeK l 30 = s at f1 hI hF
  have b1 := pk_bounds a 2 (by decide)
  have q1 := pk_pre ha (m := 2) (by decide)
  have q1' := pk_F a 2
  generalize pk a 2 = A at b1 q1'
  have b2 := pk_bounds b 5 (by decide)
  have q2 := pk_pre hb (m := 5) (by decide)
  have q2' := pk_F b 5
  generalize pk b 5 = B at b2 q2'
  have r1 : inR .i64 (1 + B) := by simp only [inR]; omega
  obtain ⟨u, hp, hu, hn, hp2, hp3, hp4, -, hp6⟩ := end_plain hI (t := (A, 1 + B)) (by simp only; omega) yes
  have hFu : fewN u 31 := by
    have := fewN_end hF (A, 1 + B) yes
    rw [hp] at this; exact this
  have hFu' := fewN_fewS' hFu (by decide)
  have f4 := end_F s (A, 1 + B) yes
  have p4 := end_pre (fewN_fewS' hF (by decide)) (A, 1 + B) yes
  rw [hp] at f4
  have f5 := end_F u (A, 1 + B) (!yes)
  have p5 := end_pre hFu' (A, 1 + B) (!yes)
  rw [hp2] at f5
  have f6 := read_F u (A, 1 + B) 7
  have p6 := read_pre hFu' (A, 1 + B) 7
  rw [hp3] at f6
  have f7 := write_F u (A, 1 + B) 7 1 1
  have p7 := write_pre hFu' (A, 1 + B) 7 1 1
  rw [hp4] at f7
  have f8 := writes_F u (A, 1 + B)
  have p8 := writes_pre hFu' (A, 1 + B)
  have hw : writesS u (A, 1 + B) = (0, 0) := by
    have c1 : callE u (A, 1 + B) 0 = 0 := callE_ok ((okS_iff u).2 hu) (okTx_of (t := (A, 1 + B)) (by simp only; omega) (by simp only; omega)) ⟨by omega, by omega⟩
    rw [writesS, if_neg (by simp [c1]), hp6]
    rfl
  rw [hw] at f8
  have f9 := chk_F' hu
  have p9 := chk_pre (fewS_of hFu (by decide))
  have p10 := same_pre (fewS_of hFu (by decide))
  have f10 : sp_same.F [.agg (stoC u), .agg (stoC u)] = .bool true := rfl
  have h24 := hu.few
  clear hI hF hp hp2 hp3 hp4 hp6 hu hw hFu hFu'
  obtain ⟨s1, s2, s3, s4⟩ := s
  obtain ⟨u1, u2, u3, u4⟩ := u
  simp only [noTx] at hn
  simp only [stoC, txC, s0, List.map_nil] at f1 f4 p4 f5 p5 f6 p6 f7 p7 f8 p8 f9 p9 f10 p10 h24
  simp only [rawsD]
  simp (implicitDefEqProofs := false) (maxSteps := 10000000) [ir_reredoskeep_EndAll, h1, x1, h2, x2, h3, x3, h4, x4, h5, x5, h6, x6, h7, x7, h8, x8, f1, p1, f4, p4, f5, p5, f6, p6, f7, p7, f8, p8, q1, q1', q2, q2', r1]
  refine k_loop (ι := {j : Nat // j ≤ u2.length}) (fun x => ⟨mkTm 112 0 [(10, .own 10 0), (11, .own 11 0), (12, .int .i64 0), (13, .own 13 0), (14, .int .i64 0), (18, .int .i64 13), (20, .int .i64 13), (21, .int .i64 0), (22, .int .i64 0), (69, .fz 6 (u2.map lkC)), (70, .int .i64 u2.length), (71, .int .i64 x.1)], [(10, .box [.int .i64 A, .int .i64 (1 + B)]), (11, .box [.fz 3 (u1.map itC), .fz 6 (u2.map lkC), .fz 3 (u3.map dbC), .fz 2 (u4.map txC)]), (13, .box [.fz 3 (u1.map itC), .fz 6 (u2.map lkC), .fz 3 (u3.map dbC), .fz 2 (u4.map txC)])]⟩)
    (fun x => u2.length - x.1) [] ⟨0, by omega⟩ (by simp (implicitDefEqProofs := false) (maxSteps := 10000000)) ?_
  rintro ⟨j, hj⟩ P hQ
  by_cases hjl : j < u2.length
  · have hjl' : (j : Int) < u2.length := by omega
    have hel := elem_map lkC u2 j hjl
    have hne := hn _ (List.getElem_mem hjl)
    generalize u2[j] = x at hel hne
    obtain ⟨a1, a2, k, w, v, q⟩ := x
    simp only [lkC] at hel
    simp only [isTx, decide_eq_false_iff_not] at hne
    have hne' : a1 = A → ¬ a2 = 1 + B := fun h h' => hne ⟨h, h'⟩
    simp (implicitDefEqProofs := false) (maxSteps := 10000000) [ir_reredoskeep_EndAll_b0, hjl', hel]
    exact ⟨hjl, fun h h' => absurd h' (hne' h), fun _ => ⟨by simp only [inR]; omega, hQ _ [] ⟨j + 1, by omega⟩ (by simp (implicitDefEqProofs := false) (maxSteps := 10000000)) (by simp only; omega)⟩⟩
  · have hjn : j = u2.length := by omega
    subst hjn
    clear hQ
    simp (implicitDefEqProofs := false) (maxSteps := 10000000) [ir_reredoskeep_EndAll_b0, ir_reredoskeep_EndAll_r1, h1, x1, h2, x2, h3, x3, h4, x4, h5, x5, h6, x6, h7, x7, h8, x8, f9, p9, f10, p10]
    all_goals exact rfl
end
end Go.Proofs.Ytjilpdgpdpibkaa
