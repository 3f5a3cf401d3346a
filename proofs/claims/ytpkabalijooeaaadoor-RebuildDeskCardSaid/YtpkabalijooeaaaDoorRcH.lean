/-
  RebuildGood and RebuildDesk answer true on data. Conditions: those of each specification's 'pre', and that the functions that are called are what theirs say. (Printed by program.)
-/
import Derived.Test.YtpkabalijooeaaaDoorRcG
set_option linter.unusedVariables false
set_option linter.unusedSimpArgs false
namespace Go.Proofs.YtpkabalijooeaaaDoor
open Go Go.Vcg

/-- A job that is told, among sites in order. -/
def toldJ (S next : Int) (j : Jb) : Prop := 1 ≤ j.n ∧ j.n < next ∧ j.state = 3 ∧ j.tasks = [] ∧ j.asks = 0 ∧ j.age = 0 ∧ okUpto S j.asked j.asked.length ∧ 0 < j.asked.length
structure DkI (S : Int) (m : Mm) : Prop where
  next : 1 ≤ m.next ∧ m.next ≤ 1048577
  told : ∀ j ∈ m.jobs, toldJ S m.next j
theorem toldJ_mono {S a b : Int} {j : Jb} (h : toldJ S a j) (hab : a ≤ b) : toldJ S b j := by
  obtain ⟨h1, h2, h3⟩ := h
  exact ⟨h1, by omega, h3⟩
theorem dkI_step {S P : Int} {ls : List (Int × Int)} {m : Mm} (h : DkI S m) (me : Int) {r : Rc} (hr : chkR S ls P r = 0) : DkI S (mmStep me m r) := by
  obtain ⟨h1, h2⟩ := h
  have hok := rcOk_of hr
  obtain ⟨_, _, _, ⟨g4, _⟩, g5, _⟩ := chkR_zero hr
  simp only [okTxn, Bool.and_eq_true, decide_eq_true_eq] at g4
  unfold mmStep
  split
  · exact ⟨h1, h2⟩
  split
  · exact ⟨h1, h2⟩
  split
  · exact ⟨h1, h2⟩
  split
  · refine ⟨h1, ?_⟩
    simp only [comJ]
    split
    · exact h2
    · rename_i hc
      intro j hj
      rcases mem_insJ hj with rfl | hj
      · have c3 : ¬ m.next ≤ r.n := fun e => hc (.inr (.inr (.inl e)))
        have c4 : ¬ r.sites.length = 0 := fun e => hc (.inr (.inr (.inr (.inl e))))
        exact ⟨by simp only; omega, by simp only; omega, rfl, rfl, rfl, rfl, g5, by simp only; omega⟩
      · exact h2 j hj
  split
  · exact ⟨h1, fun j hj => h2 j (List.mem_filter.1 hj).1⟩
  · by_cases hs : r.site = me
    · simp only [if_pos hs]
      refine ⟨by simp only; omega, fun j hj => toldJ_mono (h2 j hj) ?_⟩
      simp only; omega
    · simp only [if_neg hs]
      exact ⟨h1, h2⟩
theorem dkI_fold {S P : Int} {ls : List (Int × Int)} (me : Int) : ∀ (l : List Rc) {m : Mm}, DkI S m → (∀ r ∈ l, chkR S ls P r = 0) → DkI S (l.foldl (mmStep me) m)
  | [], m, h, _ => h
  | r :: l, m, h, hr => dkI_fold me l (dkI_step h me (hr r (by simp))) (fun r' hr' => hr r' (by simp [hr']))
theorem dkI_0 (S : Int) : DkI S mm0 := ⟨by simp [mm0], by simp [mm0]⟩
theorem chkD_told {S P next : Int} {ls : List (Int × Int)} {l : List Jb} (hc : check S ls P = 0) (hn : 1 ≤ next ∧ next ≤ 1048577) (h : ∀ j ∈ l, toldJ S next j) (hs : sortJ l) (hl : l.length ≤ 6) : chkD S ls P next l = 0 := by
  rw [chkD, if_neg (by simp [hc]), if_neg (by omega)]
  refine jbsI_yes fun i hi => ?_
  have hg : l.getD i jb0 = l[i] := by simp [List.getD, hi]
  rw [hg]
  obtain ⟨a1, a2, a3, a4, a5, a6, a7, a8⟩ := h l[i] (List.getElem_mem hi)
  refine ⟨⟨a1, a2, by omega, by omega, by omega, by omega, by rw [a4]; simp, by omega, by omega, by rw [a4]; intro k hk; simp at hk, a7, by omega⟩, fun h0 => ?_⟩
  have hg' : l.getD (i - 1) jb0 = l[i - 1] := by simp [List.getD, show i - 1 < l.length by omega]
  rw [hg']
  exact hs (i - 1) i (by omega) hi (by omega)
/-- What is rebuilt may be. -/
theorem good_plain {S P : Int} {ls : List (Int × Int)} {rs : List Rc} (hc : check S ls P = 0) (hr : ∀ r ∈ rs, chkR S ls P r = 0) (hl : rs.length ≤ 100) (me : Int) : OkS (mmOf me rs).s ∧ fewS' (mmOf me rs).s ∧ chkD S ls P (mmOf me rs).next (mmOf me rs).jobs = 0 ∧ (mmOf me rs).jobs.length ≤ 6 ∧ ∀ j ∈ (mmOf me rs).jobs, jbFew j := by
  have i1 := invR_fold me rs (n := 0) (m := mm0) invR_s0 (by omega) (fun r hr' => okTx_rec (hr r hr'))
  have i2 := mmI_at me (rs := rs) (fun r hr' => rcOk_of (hr r hr')) _ (Nat.le_refl _)
  rw [mmAt_all] at i2
  have i3 := dkI_fold me rs (dkI_0 S) hr
  have e : rs.foldl (mmStep me) mm0 = mmOf me rs := rfl
  rw [e] at i1 i3
  have hS := check_zero hc
  refine ⟨i1.ok, (i2.ok hl).1, chkD_told hc i3.next i3.told i2.sorted i2.room, i2.room, fun j hj => ?_⟩
  obtain ⟨_, _, _, a4, _, _, a7, _⟩ := i3.told j hj
  have := okUpto_len a7 (by omega)
  exact ⟨by rw [a4]; simp, by omega⟩
theorem schk_F {s : Sto} (h : OkS s) : sp_SCheck.F [.agg (stoC s)] = .int .i64 0 := by
  rw [chk_F, if_pos ((okS_iff s).2 h)]
def sp_RebuildGood : Sp := { pre := fun ds => ∃ (s : Int) (l : List Rw) (me : Int), ds = [.int .i64 s, rawsD l, .int .i64 me] ∧ inR .i64 s ∧ okRaws l ∧ inR .i64 me, F := fun _ => .bool true }
section
variable {T : Tb}
attribute [local simp] k_seq k_block k_skip k_reg k_alt k_cond k_exit k_ret kf_nil kf_seq_n kf_seq_e kf_seq_r kf_blk_n kf_blk_e kf_blk_r kf_lp_n kf_lp_e kf_lp_r kf_cut_n kf_cut_e kf_cut_r mkTm VCops VCalt istep act gd applyE wrapD Opd.ev get_mk set_mk set_mk0 tget16 tset16 tget_0 tset_0 tget_1 tset_1 tget_2 tset_2 tget_3 tset_3 tget_4 tset_4 tget_5 tset_5 tget_6 tset_6 tget_7 tset_7 tget_8 tset_8 tget_9 tset_9 tget_10 tset_10 tget_11 tset_11 tget_12 tset_12 tget_13 tset_13 tget_14 tset_14 tget_15 tset_15 D.un D.gu gus IOp.opds binD fnPost getRes IRes.get oneRes D.out outL D.clos closL D.norow norowL D.lv lvL D.scal scalL D.cells D.cell D.cell' St.lk obPut obDel List.lookup cut pickD splice fillParts fillRows elem_cons newsOf D.pl D.forget forgetL Ob.forget forgetO eqCells sg leD leDL leOb apartK St.le D.keys keysL D.rows rowsL obKeys addKeys reach pos D.ren renL Ob.ren inM outM inObs outObs goneK apartN okNames_eq okNms obNms namesOK_nil namesOK_cons freeOK_nil freeOK_cons D.frz frzL Ob.frz frzO St.frz forgetLs dropObs putObs hcall freeOf keeps baseN shD isShift shMax k_bad VCopsG frz_nil actx actc cnum vwCut St.frzT St.opnT St.clsT D.opn opnL Ob.opn opnO
set_option maxRecDepth 100000 in
set_option maxHeartbeats 16000000 in
theorem v_RebuildGood (h1 : T.sp n_reredoskeep_two = some sp_two) (h2 : T.sp n_reredoskeep_picked = some sp_picked) (h3 : T.sp n_reredoskeep_records = some sp_records) (h4 : T.sp n_recover_Rebuild = some sp_Rebuild) (h5 : T.sp n_store_Check = some sp_SCheck) (h6 : T.sp n_coord_Check = some sp_CCheck) : Verified T ir_reredoskeep_RebuildGood sp_RebuildGood := by
  refine Verified.mk ?_
  rintro ds ⟨s, l, me, rfl, hs, hl, hme⟩
  have hF : sp_RebuildGood.F [.int .i64 s, rawsD l, .int .i64 me] = .bool true := rfl
  rw [hF]
  have x1 : sp_two.hx = none := rfl
  have x2 : sp_picked.hx = none := rfl
  have x3 : sp_records.hx = none := rfl
  have x4 : sp_Rebuild.hx = none := rfl
  have x5 : sp_SCheck.hx = none := rfl
  have x6 : sp_CCheck.hx = none := rfl
  have bS := pk_bounds s 3 (by decide)
  have f1 := two_F s
  have p1 := two_pre hs
  have hS : 1 ≤ 1 + pk s 3 ∧ 1 + pk s 3 ≤ 4 := by omega
  generalize 1 + pk s 3 = S at f1 hS
  have bM := pk_bounds me S (by omega)
  have q2 := pk_pre hme (m := S) (by omega)
  have q2' := pk_F me S
  generalize pk me S = M at bM q2'
  have f3 : sp_records.F [.agg (twoC S 3), .fz 6 (l.map rawC), .int .i64 40] = .fz 8 (((l.take 40).map (mkRec S)).map recC) := recs_F S 3 l 40
  have p3 : sp_records.pre [.agg (twoC S 3), .fz 6 (l.map rawC), .int .i64 40] = True := recs_pre hS 3 hl (m := 40) (by omega)
  have hc0 : check S [(0, 0), (1, 0)] 3 = 0 := check_two hS (by omega)
  have hrs : ∀ r ∈ (l.take 40).map (mkRec S), chkR S [(0, 0), (1, 0)] 3 r = 0 := by
    intro r hr
    obtain ⟨x, _, rfl⟩ := List.mem_map.1 hr
    exact mkRec_ok S 3 _ x hc0 hS.1
  have hrl : ((l.take 40).map (mkRec S)).length ≤ 40 := by simp; omega
  generalize (l.take 40).map (mkRec S) = L at f3 hrs hrl
  have f4 := rebuild_F S [(0, 0), (1, 0)] 3 M L
  have p4 := rebuild_pre M hc0 hrs (by omega)
  rw [rebD, if_neg (by omega)] at f4
  have f4' := rebuild_F S [(0, 0), (1, 0)] 3 S []
  have p4' := rebuild_pre S hc0 (rs := []) (by simp) (by simp)
  rw [rebD, if_pos (by omega)] at f4'
  obtain ⟨g1, g2, g3, g4, g5⟩ := good_plain hc0 hrs (by omega) M
  have f5 := schk_F g1
  have p5 := chk_pre (fewS'_fewS g2)
  have f6 := ccheck_F S [(0, 0), (1, 0)] 3 (mmOf M L).next (mmOf M L).jobs
  have p6 := ccheck_pre S [(0, 0), (1, 0)] 3 (mmOf M L).next (l := (mmOf M L).jobs) (by omega) g5
  rw [g3] at f6
  clear g1 g2 g3 g4 g5 hrs hc0
  generalize mmOf M L = m at f4 f5 p5 f6 p6
  obtain ⟨⟨m1, m2, m3, m4⟩, mn, mj, mt⟩ := m
  simp only [twoC, cfgD, dkC, lbc, stoC, List.map_cons, List.map_nil] at f1 p1 f3 p3 f4 p4 f4' p4' f5 p5 f6 p6
  simp (implicitDefEqProofs := false) (maxSteps := 10000000) [ir_reredoskeep_RebuildGood, rawsD, h1, x1, h2, x2, h3, x3, h4, x4, h5, x5, h6, x6, f1, p1, q2, q2', f3, p3, f4, p4, f4', p4', f5, p5, f6, p6]
end
def sp_sameIntsR : Sp := { pre := fun ds => ∃ (a b : List Int), ds = [.fz 1 (a.map ic), .fz 1 (b.map ic)] ∧ a.length ≤ 1000000 ∧ b.length ≤ 1000000, F := fun | [x, y] => .bool (decide (intsOf x = intsOf y)) | _ => .any }
theorem intsOf_fz (a : List Int) : intsOf (.fz 1 (a.map ic)) = a := by simp [intsOf, intOf_ic]
theorem pre_sameIntsR (a b : List Int) (ha : a.length ≤ 1000000) (hb : b.length ≤ 1000000) : sp_sameIntsR.pre [.fz 1 (a.map ic), .fz 1 (b.map ic)] = True := by
  simp only [sp_sameIntsR, eq_iff_iff, iff_true]
  exact ⟨a, b, rfl, ha, hb⟩
theorem F_sameIntsR (a b : List Int) : sp_sameIntsR.F [.fz 1 (a.map ic), .fz 1 (b.map ic)] = .bool (decide (a = b)) := by
  simp only [sp_sameIntsR, intsOf_fz]

section
variable {T : Tb}
attribute [local simp] k_seq k_block k_skip k_reg k_alt k_cond k_exit k_ret kf_nil kf_seq_n kf_seq_e kf_seq_r kf_blk_n kf_blk_e kf_blk_r kf_lp_n kf_lp_e kf_lp_r kf_cut_n kf_cut_e kf_cut_r mkTm VCops VCalt istep act gd applyE wrapD Opd.ev get_mk set_mk set_mk0 tget16 tset16 tget_0 tset_0 tget_1 tset_1 tget_2 tset_2 tget_3 tset_3 tget_4 tset_4 tget_5 tset_5 tget_6 tset_6 tget_7 tset_7 tget_8 tset_8 tget_9 tset_9 tget_10 tset_10 tget_11 tset_11 tget_12 tset_12 tget_13 tset_13 tget_14 tset_14 tget_15 tset_15 D.un D.gu gus IOp.opds binD fnPost getRes IRes.get oneRes D.out outL D.clos closL D.norow norowL D.lv lvL D.scal scalL D.cells D.cell D.cell' St.lk obPut obDel List.lookup cut pickD splice fillParts fillRows elem_cons newsOf D.pl D.forget forgetL Ob.forget forgetO eqCells sg leD leDL leOb apartK St.le D.keys keysL D.rows rowsL obKeys addKeys reach pos D.ren renL Ob.ren inM outM inObs outObs goneK apartN okNames_eq okNms obNms namesOK_nil namesOK_cons freeOK_nil freeOK_cons D.frz frzL Ob.frz frzO St.frz forgetLs dropObs putObs hcall freeOf keeps baseN shD isShift shMax k_bad VCopsG frz_nil actx actc cnum vwCut St.frzT St.opnT St.clsT D.opn opnL Ob.opn opnO
theorem v_sameIntsR : Verified T ir_reredoskeep_sameInts sp_sameIntsR := by
  refine Verified.mk ?_
  rintro ds ⟨a, b, rfl, ha, hb⟩
  simp only [sp_sameIntsR, intsOf_fz]
  simp (implicitDefEqProofs := false) [ir_reredoskeep_sameInts]
  refine ⟨fun q e => q (by rw [e]), fun q => ?_⟩
  have q : a.length = b.length := by omega
  refine k_loop (ι := {i : Nat // i ≤ a.length ∧ a.take i = b.take i}) (fun x => ⟨mkTm 26 0 [(0, .fz 1 (a.map ic)), (1, .fz 1 (b.map ic)), (5, .int .i64 x.1)], []⟩)
    (fun x => a.length - x.1) [] ⟨0, by simp⟩ (by simp) ?_
  rintro ⟨i, hi, he⟩ P hP
  rcases Nat.lt_or_ge i a.length with h | h
  · have h' : i < b.length := by omega
    have hi1 : (i : Int) < a.length := by omega
    have hi2 : (i : Int) < b.length := by omega
    have e1 := elem_map ic a i h
    have e2 := elem_map ic b i h'
    have t1 : a.take (i + 1) = a.take i ++ [a[i]] := (List.take_append_getElem h).symm
    have t2 : b.take (i + 1) = b.take i ++ [b[i]] := (List.take_append_getElem h').symm
    simp (implicitDefEqProofs := false) [ir_reredoskeep_sameInts_b0, hi1, hi2, h, h', e1, e2, ic]
    refine ⟨fun n e => n (by subst e; rfl), fun e => ⟨by simp only [inR]; omega, hP _ [] ⟨i + 1, by omega, by rw [t1, t2, he, e]⟩ (by simp [ic]) (by simp; omega)⟩⟩
  · have hi1 : ¬ (i : Int) < a.length := by omega
    simp (implicitDefEqProofs := false) [ir_reredoskeep_sameInts_b0, ir_reredoskeep_sameInts_r1, hi1]
    rw [List.take_of_length_le h, List.take_of_length_le (by omega)] at he
    exact he

end
/-- One that was committed, and perhaps ended. -/
def rsD (k : Int) (L : List Int) (ended : Bool) : List Rc := [⟨5, 0, k, 0, 0, 0, false, []⟩, ⟨3, 0, k, 0, 0, 0, false, L⟩] ++ if ended = true then [⟨4, 0, k, 0, 0, 0, false, []⟩] else []
theorem desk_plain {k : Int} (hk : 1 ≤ k ∧ k ≤ 51) (L : List Int) (ended : Bool) : (mmOf 0 (rsD k L ended)).next = k + 1 ∧ (mmOf 1 (rsD k L ended)).next = 1 ∧ (mmOf 1 (rsD k L ended)).jobs = [] ∧ (mmOf 0 (rsD k L ended)).jobs = if ended = true ∨ L.length = 0 then [] else [⟨k, 3, [], L, 0, 0⟩] := by
  have a1 : mmStep 0 mm0 ⟨5, 0, k, 0, 0, 0, false, []⟩ = ⟨s0, k + 1, [], []⟩ := by
    rw [mmStep, if_neg (by simp), if_neg (by simp), if_neg (by simp), if_neg (by simp), if_neg (by simp)]
    simp only [mm0, if_true]
    congr 1
    omega
  have a2 : mmStep 0 ⟨s0, k + 1, [], []⟩ ⟨3, 0, k, 0, 0, 0, false, L⟩ = ⟨s0, k + 1, if L.length = 0 then [] else [⟨k, 3, [], L, 0, 0⟩], []⟩ := by
    rw [mmStep, if_neg (by simp), if_neg (by simp), if_neg (by simp), if_pos rfl]
    simp only [comJ]
    by_cases hL : L.length = 0
    · rw [if_pos (by simp [hL]), if_pos hL]
    · rw [if_neg (by simp [hL, hasJ]; omega), if_neg hL]
      simp [insJ, posJ]
  have b1 : mmStep 1 mm0 ⟨5, 0, k, 0, 0, 0, false, []⟩ = mm0 := by
    rw [mmStep, if_neg (by simp), if_neg (by simp), if_neg (by simp), if_neg (by simp), if_neg (by simp)]
    simp [mm0]
  have b2 : mmStep 1 mm0 ⟨3, 0, k, 0, 0, 0, false, L⟩ = mm0 := by
    rw [mmStep, if_neg (by simp), if_neg (by simp), if_neg (by simp), if_pos rfl]
    simp [mm0, comJ]
  have c0 : ∀ me (m : Mm), mmStep me m ⟨4, 0, k, 0, 0, 0, false, []⟩ = { m with jobs := m.jobs.filter fun x => !(goneJ me ⟨4, 0, k, 0, 0, 0, false, []⟩ x) } := fun me m => by
    rw [mmStep, if_neg (by simp), if_neg (by simp), if_neg (by simp), if_neg (by simp), if_pos rfl]
  cases ended
  · simp only [rsD, mmOf, Bool.false_eq_true, if_false, List.append_nil, List.foldl_cons, List.foldl_nil, a1, a2, b1, b2, false_or]
    refine ⟨by first | rfl | trivial, by first | rfl | trivial, by first | rfl | trivial, by first | rfl | trivial⟩
  · simp only [rsD, mmOf, if_true, List.cons_append, List.nil_append, List.foldl_cons, List.foldl_nil, a1, a2, b1, b2, c0, true_or]
    refine ⟨by first | rfl | trivial, by first | rfl | trivial, by first | rfl | trivial, ?_⟩
    split
    · rfl
    · simp [goneJ]
theorem rsD_ok {k : Int} (hk : 1 ≤ k ∧ k ≤ 51) {L : List Int} (hL : okUpto 3 L L.length) (ended : Bool) : ∀ r ∈ rsD k L ended, chkR 3 [(0, 0)] 2 r = 0 := by
  have hc : check 3 [(0, 0)] 2 = 0 := by decide
  have hn : okTxn 3 0 k = true := by simp only [okTxn, Bool.and_eq_true, decide_eq_true_eq]; omega
  have one : ∀ (kd : Int) (l : List Int), 3 ≤ kd ∧ kd ≤ 5 → okUpto 3 l l.length → (kd ≠ 3 → l = []) → chkR 3 [(0, 0)] 2 ⟨kd, 0, k, 0, 0, 0, false, l⟩ = 0 := by
    intro kd l h1 h2 h3
    rw [chkR, if_neg (by simp [hc]), if_neg (by simp only; omega), if_neg, if_neg, if_neg]
    · have hk3 : kd = 3 ∨ kd = 4 ∨ kd = 5 := by omega
      rcases hk3 with rfl | rfl | rfl
      · simp [okFormR, rp, rparts]
      · rw [h3 (by omega)]; simp [okFormR, rp, rparts]
      · rw [h3 (by omega)]; simp [okFormR, rp, rparts]
    · simpa using h2
    · intro h
      exact h ⟨hn, rfl, rfl, rfl⟩
  intro r hr
  have h0 : okUpto 3 ([] : List Int) ([] : List Int).length := fun i hi => by simp at hi
  simp only [rsD, List.mem_append, List.mem_cons, List.not_mem_nil, or_false] at hr
  rcases hr with (rfl | rfl) | hr
  · exact one 5 [] (by omega) h0 (fun _ => rfl)
  · exact one 3 L (by omega) hL (fun h => absurd rfl h)
  · split at hr
    · rw [List.mem_singleton] at hr
      subst hr
      exact one 4 [] (by omega) h0 (fun _ => rfl)
    · simp at hr
def sp_RebuildDesk : Sp := { pre := fun ds => ∃ (n sites : Int) (ended : Bool), ds = [.int .i64 n, .int .i64 sites, .bool ended] ∧ inR .i64 n ∧ inR .i64 sites, F := fun _ => .bool true }
theorem rec_F (S : Int) (ls : List (Int × Int)) (P : Int) (r : Rw) : sp_Record.F [cfgD S ls P, .agg (rawC r)] = .agg (recC (mkRec S r)) := by
  have e : rawOf (.agg (rawC r)) = r := rawOf_rawD r
  simp only [sp_Record, cfgOf_cfgD, e]
  rfl
theorem rec_pre3 {r : Rw} (h : okRaw r) : sp_Record.pre [cfgD 3 [(0, 0)] 2, .agg (rawC r)] = True := by
  simp only [sp_Record, eq_iff_iff, iff_true]
  refine ⟨_, r, rfl, ⟨isCfg_mk _ _ _, ?_, ?_, ?_, ?_⟩, h⟩ <;> simp only [cfgOf_cfgD] <;> decide
section
variable {T : Tb}
attribute [local simp] k_seq k_block k_skip k_reg k_alt k_cond k_exit k_ret kf_nil kf_seq_n kf_seq_e kf_seq_r kf_blk_n kf_blk_e kf_blk_r kf_lp_n kf_lp_e kf_lp_r kf_cut_n kf_cut_e kf_cut_r mkTm VCops VCalt istep act gd applyE wrapD Opd.ev get_mk set_mk set_mk0 tget16 tset16 tget_0 tset_0 tget_1 tset_1 tget_2 tset_2 tget_3 tset_3 tget_4 tset_4 tget_5 tset_5 tget_6 tset_6 tget_7 tset_7 tget_8 tset_8 tget_9 tset_9 tget_10 tset_10 tget_11 tset_11 tget_12 tset_12 tget_13 tset_13 tget_14 tset_14 tget_15 tset_15 D.un D.gu gus IOp.opds binD fnPost getRes IRes.get oneRes D.out outL D.clos closL D.norow norowL D.lv lvL D.scal scalL D.cells D.cell D.cell' St.lk obPut obDel List.lookup cut pickD splice fillParts fillRows elem_cons newsOf D.pl D.forget forgetL Ob.forget forgetO eqCells sg leD leDL leOb apartK St.le D.keys keysL D.rows rowsL obKeys addKeys reach pos D.ren renL Ob.ren inM outM inObs outObs goneK apartN okNames_eq okNms obNms namesOK_nil namesOK_cons freeOK_nil freeOK_cons D.frz frzL Ob.frz frzO St.frz forgetLs dropObs putObs hcall freeOf keeps baseN shD isShift shMax k_bad VCopsG frz_nil actx actc cnum vwCut St.frzT St.opnT St.clsT D.opn opnL Ob.opn opnO
set_option maxRecDepth 100000 in
set_option maxHeartbeats 16000000 in
theorem v_RebuildDesk (h1 : T.sp n_reredoskeep_picked = some sp_picked) (h2 : T.sp n_reredoskeep_Record = some sp_Record) (h3 : T.sp n_recover_Rebuild = some sp_Rebuild) (h4 : T.sp n_coord_Check = some sp_CCheck) (h5 : T.sp n_reredoskeep_sameInts = some sp_sameIntsR) : Verified T ir_reredoskeep_RebuildDesk sp_RebuildDesk := by
  refine Verified.mk ?_
  rintro ds ⟨n, sites, ended, rfl, hn, hs⟩
  have hF : sp_RebuildDesk.F [.int .i64 n, .int .i64 sites, .bool ended] = .bool true := rfl
  rw [hF]
  have x1 : sp_picked.hx = none := rfl
  have x2 : sp_Record.hx = none := rfl
  have x3 : sp_Rebuild.hx = none := rfl
  have x4 : sp_CCheck.hx = none := rfl
  have x5 : sp_sameIntsR.hx = none := rfl
  have b1 := pk_bounds n 50 (by decide)
  have q1 := pk_pre hn (m := 50) (by decide)
  have q1' := pk_F n 50
  generalize pk n 50 = A at b1 q1'
  have f2 := rec_F 3 [(0, 0)] 2 ⟨2, 0, 0, sites, 0, 0⟩
  have p2 := rec_pre3 (r := ⟨2, 0, 0, sites, 0, 0⟩) ⟨by simp [inR], by simp [inR], by simp [inR], hs, by simp [inR], by simp [inR]⟩
  have e2 : mkRec 3 ⟨2, 0, 0, sites, 0, 0⟩ = ⟨3, 0, 1, 0, 0, 0, false, sitesOf (pk sites 16) 3⟩ := by
    have k1 : (1 : Int) + pk 2 6 = 3 := by decide
    simp only [mkRec, k1]
    rfl
  rw [e2] at f2
  have hu : okUpto 3 (sitesOf (pk sites 16) 3) (sitesOf (pk sites 16) 3).length := okUpto_sitesOf (pk sites 16) 3
  generalize sitesOf (pk sites 16) 3 = L at f2 hu
  have hk : 1 ≤ 1 + A ∧ 1 + A ≤ 51 := by omega
  have r1 : inR .i64 (1 + A) := by simp only [inR]; omega
  have r2 : inR .i64 (1 + A + 1) := by simp only [inR]; omega
  obtain ⟨k, hkA⟩ : ∃ k, 1 + A = k := ⟨_, rfl⟩
  rw [hkA] at hk r1 r2
  have hc0 : check 3 [(0, 0)] 2 = 0 := by decide
  have hrs := rsD_ok hk hu ended
  have hrl : (rsD k L ended).length ≤ 100 := by cases ended <;> simp [rsD]
  have f3 := rebuild_F 3 [(0, 0)] 2 0 (rsD k L ended)
  have p3 := rebuild_pre 0 hc0 hrs hrl
  have f3' := rebuild_F 3 [(0, 0)] 2 1 (rsD k L ended)
  have p3' := rebuild_pre 1 hc0 hrs hrl
  rw [rebD, if_neg (by omega)] at f3 f3'
  obtain ⟨_, _, g3, g4, g5⟩ := good_plain hc0 hrs hrl 0
  have f4 := ccheck_F 3 [(0, 0)] 2 (mmOf 0 (rsD k L ended)).next (mmOf 0 (rsD k L ended)).jobs
  have p4 := ccheck_pre 3 [(0, 0)] 2 (mmOf 0 (rsD k L ended)).next (l := (mmOf 0 (rsD k L ended)).jobs) (by omega) g5
  rw [g3] at f4
  obtain ⟨d1, d2, d3, d4⟩ := desk_plain hk L ended
  rw [d1, d4] at f3 f4 p4
  rw [d2, d3] at f3'
  clear d1 d2 d3 d4 g3 g4 g5 hrs hrl hc0
  generalize (mmOf 0 (rsD k L ended)).s = m0 at f3
  generalize (mmOf 1 (rsD k L ended)).s = m1 at f3'
  generalize (mmOf 0 (rsD k L ended)).notes = t0 at f3
  generalize (mmOf 1 (rsD k L ended)).notes = t1 at f3'
  have hLl : L.length ≤ 1000000 := by have := okUpto_len hu (by omega); omega
  have f5 := F_sameIntsR L L
  have p5 := pre_sameIntsR L L hLl hLl
  have hLe : (L = []) = (L.length = 0) := by simp
  obtain ⟨a1, a2, a3, a4⟩ := m0
  obtain ⟨c1, c2, c3, c4⟩ := m1
  cases ended
  all_goals by_cases hL : L.length = 0
  all_goals
    simp only [hL, rsD, cfgD, dkC, lbc, stoC, recC, rawC, jbC, List.map_cons, List.map_nil, List.cons_append, List.nil_append, List.append_nil, Bool.false_eq_true, if_false, if_true, or_true, or_false, true_or, false_or, or_self, decide_true] at f2 p2 f3 p3 f3' p3' f4 p4 f5 p5
    simp (implicitDefEqProofs := false) (maxSteps := 10000000) [ir_reredoskeep_RebuildDesk, h1, x1, h2, x2, h3, x3, h4, x4, h5, x5, q1, q1', hkA, r1, r2, f2, p2, f3, p3, f3', p3', f4, p4, f5, p5, hL, hLe]
end
end Go.Proofs.YtpkabalijooeaaaDoor
