/-
  What the Hear laws have in common. Conditions: those of its specification's 'pre', and that the functions that are called are what theirs say.
-/
import Derived.Test.YtilahimnineigaaDoorPtI
set_option linter.unusedVariables false
set_option linter.unusedSimpArgs false
namespace Go.Proofs.YtilahimnineigaaDoor
open Go Go.Vcg

theorem write_fresh {n : Nat} {s : Sto} (h : InvK n s) (hn : n ≤ 1000) {t : Tx} (hnt : noTx s t) (ho : overB s t = false) (ht : okTx t.1 t.2 = true) {k v q : Int} (hk : 0 ≤ k ∧ k < 8) (hv : okVQ v q) : writeS s t k v q = if (s.locks.any fun x => decide (x.key = k)) = true then (s0, 11) else (addL s ⟨t.1, t.2, k, true, v, q⟩, 0) := by
  have hc := callE_ok ((okS_iff s).2 h.ok) ht hk
  have hl := lockI_noTx hnt k
  have h20 := few20 h
  have hb := busy_noTx hnt k true
  have hver := ver_new h k
  simp only [Bool.true_or, Bool.and_true] at hb
  rw [writeS, if_neg (by simp [hc]), if_neg (by simpa using hv), if_neg (by
    rintro (h' | ⟨h', _⟩)
    · rw [ho] at h'; cases h'
    · omega), hb]
  split
  · rfl
  · rw [if_neg (by
      rintro (⟨_, h'⟩ | h') <;> omega)]
    simp only [putL, if_pos hl]
    rfl
theorem okS_fresh {n : Nat} {s : Sto} (h : InvK n s) {x : Lk} (hnt : noTx s (x.site, x.n)) (ho : overB s (x.site, x.n) = false) (ht : okTx x.site x.n = true) (hr : lkR x = true) (hb : (s.locks.any fun y => decide (y.key = x.key) && (x.wr || y.wr)) = false) : OkS (addL s x) := by
  refine okS_lock h.ok (t := (x.site, x.n)) ht ho ⟨rfl, rfl⟩ hr (by have := few20 h; omega) (lockI_noTx hnt _) ?_
  rw [busy_noTx hnt]
  exact hb
/-- Who is over has a small number. -/
def ovN (s : Sto) : Prop := ∀ t ∈ s.over, t.2 ≤ 2
theorem ovN_step {s : Sto} (h : ovN s) (r : Rw) : ovN (kStep s r) := by
  unfold kStep
  split
  · split
    · rename_i he
      obtain ⟨_, h1 | ⟨_, _, _, _, h5⟩⟩ := read_cases he
      · rw [h1.2]; exact h
      · rw [h5]; exact h
    · exact h
  split
  · split
    · rename_i he
      obtain ⟨_, _, _, _, _, h5⟩ := write_cases he
      rw [h5]; exact h
    · exact h
  · split
    · rename_i he
      intro t ht
      unfold endS at ht he
      split at ht
      · simp [s0] at ht
      · rcases mem_overL.1 ht with ht | rfl
        · exact h t ht
        · exact (kTx_in r).2.2.2
    · exact h
theorem ovN_store (l : List Rw) (m : Nat) : ovN (storeK l m) := by
  rw [storeK, kSteps]
  have : ∀ (l : List Rw) (s : Sto), ovN s → ovN (l.foldl kStep s) := by
    intro l
    induction l with
    | nil => exact fun _ h => h
    | cons r l ih => exact fun s h => ih _ (ovN_step h r)
  exact this _ s0 (by simp [ovN, s0])
theorem fresh_of {n : Nat} {s : Sto} (h : InvK n s) (ho : ovN s) {t : Tx} (ht : 3 ≤ t.2) : noTx s t ∧ overB s t = false := by
  constructor
  · intro x hx
    have := (h.lks x hx).2.2.2.2
    simp only [isTx, decide_eq_false_iff_not]
    rintro ⟨_, e⟩
    omega
  · cases hb : overB s t
    · rfl
    · have := ho t (over_iff.1 hb); omega
theorem end_again {s : Sto} {n : Nat} (h : InvK n s) (hn : n ≤ 100) {t : Tx} (ht : 0 ≤ t.1 ∧ t.1 < 2 ∧ 1 ≤ t.2 ∧ t.2 ≤ 1000) (yes : Bool) : ∃ u, endS s t yes = (u, 0) ∧ OkS u ∧ (∀ y, endS u t y = (u, 0)) ∧ wrN u.locks t = 0 ∧ InvK (n + 1) u := by
  have ht' : okTx t.1 t.2 = true := okTx_of ⟨ht.1, by omega⟩ ⟨ht.2.2.1, by omega⟩
  have c0 : callE s t 0 = 0 := callE_ok ((okS_iff s).2 h.ok) ht' ⟨by omega, by omega⟩
  have hI : InvK (n + 1) (endS s t yes).1 := invK_end h (by omega) ⟨ht.1, ht.2.1, ht.2.2.1, by omega⟩ yes
  have hE : endS s t yes = ((endS s t yes).1, 0) := by rw [endS, if_neg (by simp [c0])]
  have h1 : (endS s t yes).1.locks = s.locks.filter (fun x => !isTx x.site x.n t) := by rw [endS, if_neg (by simp [c0])]
  have h2 : (endS s t yes).1.doubts = s.doubts.filter (fun x => !isTx x.site x.n t) := by rw [endS, if_neg (by simp [c0])]
  have h3 : (endS s t yes).1.over = overL s.over t := by rw [endS, if_neg (by simp [c0])]
  generalize (endS s t yes).1 = u at hI hE h1 h2 h3
  have hn : noTx u t := by
    intro x hx
    rw [h1, List.mem_filter] at hx
    simpa using hx.2
  have ho : overB u t = true := over_iff.2 (by rw [h3]; exact mem_overL.2 (.inr rfl))
  have c1 : callE u t 0 = 0 := callE_ok ((okS_iff u).2 hI.ok) ht' ⟨by omega, by omega⟩
  refine ⟨u, hE, hI.ok, fun y => ?_, ?_, hI⟩
  · rw [endS, if_neg (by simp [c1]), endIts_others t y u.locks u.items hn]
    have e1 : u.locks.filter (fun x => !isTx x.site x.n t) = u.locks := by
      rw [h1, List.filter_filter]
      simp
    have e2 : u.doubts.filter (fun x => !isTx x.site x.n t) = u.doubts := by
      rw [h2, List.filter_filter]
      simp
    have e3 : overL u.over t = u.over := by
      rw [overL, if_pos]
      exact ho
    rw [e1, e2, e3]
  · rw [wrN, List.countP_eq_zero]
    intro x hx
    simp [hn x hx]
theorem writes_of {s : Sto} (h : OkS s) {t : Tx} (ht : okTx t.1 t.2 = true) : writesS s t = (((wrN s.locks t : Nat) : Int), 0) := by
  have c : callE s t 0 = 0 := callE_ok ((okS_iff s).2 h) ht ⟨by omega, by omega⟩
  rw [writesS, if_neg (by simp [c])]
theorem hear_zero {S P l me : Int} {m : Ms} (h1 : chkM S [(0, 0), (1, 0)] P m = 0) (h2 : m.to = me) (h3 : m.label = 0) (hl : 0 ≤ l) (h4 : m.kind = 1 ∨ m.kind = 2 ∨ m.kind = 3 ∨ m.kind = 4) : hearE S P l me m = 0 := by
  rw [hearE, if_neg (by simp [h1]), if_neg (by simp [h2]), if_neg (by omega), if_pos h4]
theorem chk_one {m : Ms} (hk : 1 ≤ m.kind ∧ m.kind ≤ 9) (h1 : m.frm = 0 ∧ m.to = 0 ∧ m.site = 0 ∧ m.label = 0) (hn : 1 ≤ m.n ∧ m.n ≤ 1048576) (h2 : okKey m.key = true) (h3 : okVal m.value = true) (h4 : 0 ≤ m.version ∧ m.version ≤ 1048576) (h5 : okAsk m.ask = true) (h6 : m.code = 0) (hf : okForm m) : chkM 1 [(0, 0), (1, 0)] 3 m = 0 := by
  have hc := check_two (S := 1) (P := 3) (by omega) (by omega)
  have hr : okRange 1 2 m := by
    obtain ⟨a, b, c, d⟩ := h1
    refine ⟨by omega, by omega, by omega, by omega, ?_, by omega, by omega, h2, h3, h4.1, h4.2, h5, ?_⟩
    · simp only [okTxn, Bool.and_eq_true, decide_eq_true_eq]; omega
    · rw [h6]; rfl
  rw [chkM, if_neg (by simp [hc]), if_neg (by omega), if_neg (by simpa using hr), if_neg (by simpa using hf)]
def sp_sameInts : Sp := { pre := fun ds => ds = [.fz 1 [], .fz 1 []], F := fun _ => .bool true }
def sp_sameRec : Sp := { pre := fun ds => ∃ (k s n ky v a : Int) (y : Bool), ds = [.agg [.int .i64 k, .int .i64 s, .int .i64 n, .int .i64 ky, .int .i64 v, .int .i64 a, .bool y, .fz 1 []], .agg [.int .i64 k, .int .i64 s, .int .i64 n, .int .i64 ky, .int .i64 v, .int .i64 a, .bool y, .fz 1 []]], F := fun _ => .bool true }
theorem sameRec_pre (k s n ky v a : Int) (y : Bool) : sp_sameRec.pre [.agg [.int .i64 k, .int .i64 s, .int .i64 n, .int .i64 ky, .int .i64 v, .int .i64 a, .bool y, .fz 1 []], .agg [.int .i64 k, .int .i64 s, .int .i64 n, .int .i64 ky, .int .i64 v, .int .i64 a, .bool y, .fz 1 []]] = True := by
  simp only [sp_sameRec, eq_iff_iff, iff_true]; exact ⟨k, s, n, ky, v, a, y, rfl⟩
section
variable {T : Tb}
attribute [local simp] k_seq k_block k_skip k_reg k_alt k_cond k_exit k_ret kf_nil kf_seq_n kf_seq_e kf_seq_r kf_blk_n kf_blk_e kf_blk_r kf_lp_n kf_lp_e kf_lp_r kf_cut_n kf_cut_e kf_cut_r mkTm VCops VCalt istep act gd applyE wrapD Opd.ev get_mk set_mk set_mk0 tget16 tset16 tget_0 tset_0 tget_1 tset_1 tget_2 tset_2 tget_3 tset_3 tget_4 tset_4 tget_5 tset_5 tget_6 tset_6 tget_7 tset_7 tget_8 tset_8 tget_9 tset_9 tget_10 tset_10 tget_11 tset_11 tget_12 tset_12 tget_13 tset_13 tget_14 tset_14 tget_15 tset_15 D.un D.gu gus IOp.opds binD fnPost getRes IRes.get oneRes D.out outL D.clos closL D.norow norowL D.lv lvL D.scal scalL D.cells D.cell D.cell' St.lk obPut obDel List.lookup cut pickD splice fillParts fillRows elem_cons newsOf D.pl D.forget forgetL Ob.forget forgetO eqCells sg leD leDL leOb apartK St.le D.keys keysL D.rows rowsL obKeys addKeys reach pos D.ren renL Ob.ren inM outM inObs outObs goneK apartN okNames_eq okNms obNms namesOK_nil namesOK_cons freeOK_nil freeOK_cons D.frz frzL Ob.frz frzO St.frz forgetLs dropObs putObs hcall freeOf keeps baseN shD isShift shMax k_bad VCopsG frz_nil actx actc cnum vwCut St.frzT St.opnT St.clsT D.opn opnL Ob.opn opnO
theorem v_sameInts : Verified T ir_reredoskeep_sameInts sp_sameInts := by
  refine Verified.mk ?_
  rintro ds rfl
  simp (implicitDefEqProofs := false) (maxSteps := 10000000) [ir_reredoskeep_sameInts]
  refine k_loop (ι := Unit) (fun _ => ⟨mkTm 26 0 [(0, .fz 1 []), (1, .fz 1 []), (5, .int .i64 0)], []⟩)
    (fun _ => 0) [] () (by simp (implicitDefEqProofs := false) (maxSteps := 10000000)) ?_
  rintro _ Q hQ
  clear hQ
  simp (implicitDefEqProofs := false) (maxSteps := 10000000) [ir_reredoskeep_sameInts_b0, ir_reredoskeep_sameInts_r1]
  all_goals exact rfl
theorem v_sameRec (h1 : T.sp n_reredoskeep_sameInts = some sp_sameInts) : Verified T ir_reredoskeep_sameRecord sp_sameRec := by
  refine Verified.mk ?_
  rintro ds ⟨k, s, n, ky, v, a, y, rfl⟩
  have x1 : sp_sameInts.hx = none := rfl
  have f1 : sp_sameInts.F [.fz 1 [], .fz 1 []] = .bool true := rfl
  have p1 : sp_sameInts.pre [.fz 1 [], .fz 1 []] = True := by simp [sp_sameInts]
  simp (implicitDefEqProofs := false) (maxSteps := 10000000) [ir_reredoskeep_sameRecord, h1, x1, f1, p1]
  all_goals exact rfl
end
end Go.Proofs.YtilahimnineigaaDoor
