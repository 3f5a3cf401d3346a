/-
  WriteLater answers true on data. Conditions: those of its specification's 'pre', and that the functions that are called are what theirs say.
-/
import Derived.Test.YtjilpdgpdpibkaaStJ
set_option linter.unusedVariables false
set_option linter.unusedSimpArgs false
namespace Go.Proofs.Ytjilpdgpdpibkaa
open Go Go.Vcg

theorem addL_lock {s : Sto} {x : Lk} (h : noTx s (x.site, x.n)) : lockI (addL s x) (x.site, x.n) x.key = s.locks.length ∧ lockAt (addL s x) (lockI (addL s x) (x.site, x.n) x.key) = x := by
  have e : lockI (addL s x) (x.site, x.n) x.key = s.locks.length := by
    rw [lockI]
    refine idxOf_found (j := s.locks.length) (by simp [addL]) ?_ ?_
    · simp [addL, isTx]
    · intro i hi
      have : (addL s x).locks[i]'(by simp [addL]; omega) = s.locks[i] := by
        simp [addL, List.getElem_append_left hi]
      rw [this, h _ (List.getElem_mem hi)]
      rfl
  refine ⟨e, ?_⟩
  rw [e, lockAt, Int.toNat_natCast]
  simp [addL]
theorem busy_addL (s : Sto) (x : Lk) (t : Tx) (k : Int) (all : Bool) : busyB (addL s x) t k all = (busyB s t k all || (decide (x.key = k) && !isTx x.site x.n t && (all || x.wr))) := by
  simp [busyB, addL]
theorem read_own {s : Sto} {x : Lk} (hu : OkS (addL s x)) (h : noTx s (x.site, x.n)) (ht : okTx x.site x.n = true) (hk : 0 ≤ x.key ∧ x.key < 8) : readS (addL s x) (x.site, x.n) x.key = (addL s x, if x.wr = true then x.value else (itemAt s.items x.key).value, (itemAt s.items x.key).version, 0) := by
  have hc := callE_ok ((okS_iff _).2 hu) (t := (x.site, x.n)) ht hk
  obtain ⟨h1, h2⟩ := addL_lock h
  rw [readS, if_neg (by simp [hc]), if_pos (by omega), h2]
  split <;> rfl
theorem write_early {s : Sto} {x : Lk} (hu : OkS (addL s x)) (h : noTx s (x.site, x.n)) (ht : okTx x.site x.n = true) (hk : 0 ≤ x.key ∧ x.key < 8) {v q : Int} (hv : okVQ v q) (hq : q < x.ask) : writeS (addL s x) (x.site, x.n) x.key v q = (s0, 13) := by
  have hc := callE_ok ((okS_iff _).2 hu) (t := (x.site, x.n)) ht hk
  obtain ⟨h1, h2⟩ := addL_lock h
  rw [writeS, if_neg (by simp [hc]), if_neg (by simpa using hv), if_pos]
  exact .inr ⟨by omega, by rw [h2]; exact hq⟩
theorem write_late {s : Sto} {x : Lk} (hu : OkS (addL s x)) (h : noTx s (x.site, x.n)) (ht : okTx x.site x.n = true) (hk : 0 ≤ x.key ∧ x.key < 8) {v q : Int} (hv : okVQ v q) (hq : x.ask ≤ q) (ho : overB s (x.site, x.n) = false) (hb : busyB s (x.site, x.n) x.key true = false) (hver : (itemAt s.items x.key).version < 1048576) : (writeS (addL s x) (x.site, x.n) x.key v q).2 = 0 := by
  have hc := callE_ok ((okS_iff _).2 hu) (t := (x.site, x.n)) ht hk
  obtain ⟨h1, h2⟩ := addL_lock h
  have ho' : overB (addL s x) (x.site, x.n) = false := ho
  have hv' : (itemAt (addL s x).items x.key).version < 1048576 := hver
  rw [writeS, if_neg (by simp [hc]), if_neg (by simpa using hv), if_neg (by
    rintro (h' | ⟨_, h'⟩)
    · rw [ho'] at h'; cases h'
    · rw [h2] at h'; omega), if_neg (by
      rw [busy_addL, hb]
      simp [isTx]), if_neg (by
      rintro (⟨h', _⟩ | h')
      · omega
      · omega)]
/-- What the law asks of a store. -/
theorem later_plain {s : Sto} (h : InvK 20 s) {a k v w m n : Int} (ha : 1 ≤ a ∧ a ≤ 9) (hk : 0 ≤ k ∧ k < 8) (hv : 0 ≤ v ∧ v < 99) (hw : 0 ≤ w ∧ w < 99) (hn : 0 ≤ n ∧ n < m ∧ m ≤ 1000) : writeS s (2, a) k v m = (s0, 11) ∨ ∃ u, writeS s (2, a) k v m = (u, 0) ∧ writeS u (2, a) k w n = (s0, 13) ∧ (∃ ver, readS u (2, a) k = (u, v, ver, 0)) ∧ (writeS u (2, a) k w (m + 1)).2 = 0 := by
  have hvq : okVQ v m := ⟨by omega, by omega, by omega, by omega⟩
  have hw1 : okVQ w n := ⟨by omega, by omega, by omega, by omega⟩
  have hw2 : okVQ w (m + 1) := ⟨by omega, by omega, by omega, by omega⟩
  have e := write_new h (by decide) (t := (2, a)) (by simp) (by simp only; omega) hk hvq
  have hnt := noTx_new h (t := (2, a)) (by simp)
  have ht : okTx 2 a = true := okTx_of (t := (2, a)) (by simp) (by simp only; omega)
  cases hb : s.locks.any fun x => decide (x.key = k)
  · right
    rw [hb] at e
    have hu : OkS (addL s ⟨2, a, k, true, v, m⟩) := okS_addL h (by simp) (by simp only; omega) (lkR_of hk hvq rfl) (by simpa using hb)
    refine ⟨_, e, ?_, ⟨_, read_own (x := ⟨2, a, k, true, v, m⟩) hu hnt ht hk⟩, ?_⟩
    · exact write_early (x := ⟨2, a, k, true, v, m⟩) hu hnt ht hk hw1 hn.2.1
    · refine write_late (x := ⟨2, a, k, true, v, m⟩) hu hnt ht hk hw2 (by simp only; omega) (over_new h (t := (2, a)) (by simp)) ?_ (by have := ver_new h k; simp only; omega)
      rw [busy_noTx hnt]
      simpa using hb
  · left
    rw [hb] at e
    exact e
def sp_WriteLater : Sp := { pre := fun ds => ∃ (l : List Rw) (a key v w first more : Int), ds = [rawsD l, .int .i64 a, .int .i64 key, .int .i64 v, .int .i64 w, .int .i64 first, .int .i64 more] ∧ okRaws l ∧ inR .i64 a ∧ inR .i64 key ∧ inR .i64 v ∧ inR .i64 w ∧ inR .i64 first ∧ inR .i64 more, F := fun _ => .bool true }
section
variable {T : Tb}
attribute [local simp] k_seq k_block k_skip k_reg k_alt k_cond k_exit k_ret kf_nil kf_seq_n kf_seq_e kf_seq_r kf_blk_n kf_blk_e kf_blk_r kf_lp_n kf_lp_e kf_lp_r kf_cut_n kf_cut_e kf_cut_r mkTm VCops VCalt istep act gd applyE wrapD Opd.ev get_mk set_mk set_mk0 tget16 tset16 tget_0 tset_0 tget_1 tset_1 tget_2 tset_2 tget_3 tset_3 tget_4 tset_4 tget_5 tset_5 tget_6 tset_6 tget_7 tset_7 tget_8 tset_8 tget_9 tset_9 tget_10 tset_10 tget_11 tset_11 tget_12 tset_12 tget_13 tset_13 tget_14 tset_14 tget_15 tset_15 D.un D.gu gus IOp.opds binD fnPost getRes IRes.get oneRes D.out outL D.clos closL D.norow norowL D.lv lvL D.scal scalL D.cells D.cell D.cell' St.lk obPut obDel List.lookup cut pickD splice fillParts fillRows elem_cons newsOf D.pl D.forget forgetL Ob.forget forgetO eqCells sg leD leDL leOb apartK St.le D.keys keysL D.rows rowsL obKeys addKeys reach pos D.ren renL Ob.ren inM outM inObs outObs goneK apartN okNames_eq okNms obNms namesOK_nil namesOK_cons freeOK_nil freeOK_cons D.frz frzL Ob.frz frzO St.frz forgetLs dropObs putObs hcall freeOf keeps baseN shD isShift shMax k_bad VCopsG frz_nil actx actc cnum vwCut St.frzT St.opnT St.clsT D.opn opnL Ob.opn opnO
set_option maxRecDepth 100000 in
set_option maxHeartbeats 8000000 in
theorem v_WriteLater (h1 : T.sp n_reredoskeep_Store = some sp_Store) (h2 : T.sp n_store_Read = some sp_Read) (h3 : T.sp n_store_Check = some sp_SCheck) (h4 : T.sp n_store_Write = some sp_Write) (h5 : T.sp n_reredoskeep_picked = some sp_picked) : Verified T ir_reredoskeep_WriteLater sp_WriteLater := by
  refine Verified.mk ?_
  rintro ds ⟨l, a, key, v, w, first, more, rfl, hl, ha, hkey, hv, hw, hfirst, hmore⟩
  have x1 : sp_Store.hx = none := rfl
  have x2 : sp_Read.hx = none := rfl
  have x3 : sp_SCheck.hx = none := rfl
  have x4 : sp_Write.hx = none := rfl
  have x5 : sp_picked.hx = none := rfl
  have f1 : sp_Store.F [.fz 6 (l.map rawC), .int .i64 20] = _ := store_F l 20
  have p1 : sp_Store.pre [.fz 6 (l.map rawC), .int .i64 20] = True := store_pre hl (m := 20) (by decide)
  have hI := invK_store l (m := 20) (by decide)
  have hF := fewN_store l 20
  generalize storeK l 20 = s at f1 hI hF
  have b1 := pk_bounds a 9 (by decide)
  have q1 := pk_pre ha (m := 9) (by decide)
  have q1' := pk_F a 9
  generalize pk a 9 = A at b1 q1'
  have b2 := pk_bounds key 8 (by decide)
  have q2 := pk_pre hkey (m := 8) (by decide)
  have q2' := pk_F key 8
  generalize pk key 8 = k at b2 q2'
  have b3 := pk_bounds v 99 (by decide)
  have q3 := pk_pre hv (m := 99) (by decide)
  have q3' := pk_F v 99
  generalize pk v 99 = V at b3 q3'
  have b4 := pk_bounds w 99 (by decide)
  have q4 := pk_pre hw (m := 99) (by decide)
  have q4' := pk_F w 99
  generalize pk w 99 = W at b4 q4'
  have b5 := pk_bounds first 100 (by decide)
  have q5 := pk_pre hfirst (m := 100) (by decide)
  have q5' := pk_F first 100
  generalize pk first 100 = n at b5 q5'
  have b6 := pk_bounds more 100 (by decide)
  have q6 := pk_pre hmore (m := 100) (by decide)
  have q6' := pk_F more 100
  generalize pk more 100 = M at b6 q6'
  have r1 : inR .i64 (1 + A) := by simp only [inR]; omega
  have r2 : inR .i64 (n + 1) := by simp only [inR]; omega
  have r3 : inR .i64 (n + 1 + M) := by simp only [inR]; omega
  have r4 : inR .i64 (n + 1 + M + 1) := by simp only [inR]; omega
  have hp := later_plain hI (a := 1 + A) (k := k) (v := V) (w := W) (m := n + 1 + M) (n := n) (by omega) b2 b3 b4 (by omega)
  have f3 := chk_F' hI.ok
  have p3 := chk_pre (fewS_of hF (by decide))
  have f4 := write_F s (2, 1 + A) k V (n + 1 + M)
  have p4 := write_pre (fewN_fewS' hF (by decide)) (2, 1 + A) k V (n + 1 + M)
  rcases hp with hp | ⟨u, hp, hp2, ⟨ver, hp3⟩, hp4⟩
  · rw [hp] at f4
    clear hI hF hp
    obtain ⟨s1, s2, s3, s4⟩ := s
    simp only [stoC, txC, s0, List.map_nil] at f1 f3 p3 f4 p4
    simp only [rawsD]
    simp (implicitDefEqProofs := false) (maxSteps := 10000000) [ir_reredoskeep_WriteLater, h1, h2, h3, h4, h5, x1, x2, x3, x4, x5, f1, p1, f3, p3, f4, p4, q1, q1', q2, q2', q3, q3', q5, q5', q6, q6', r1, r2, r3]
    all_goals exact rfl
  · have hFu : fewN u 21 := by
      have := fewN_write hF (2, 1 + A) k V (n + 1 + M)
      rw [hp] at this; exact this
    rw [hp] at f4
    have f5 := write_F u (2, 1 + A) k W n
    have p5 := write_pre (fewN_fewS' hFu (by decide)) (2, 1 + A) k W n
    rw [hp2] at f5
    have f6 := read_F u (2, 1 + A) k
    have p6 := read_pre (fewN_fewS' hFu (by decide)) (2, 1 + A) k
    rw [hp3] at f6
    have f7 := write_F u (2, 1 + A) k W (n + 1 + M + 1)
    have p7 := write_pre (fewN_fewS' hFu (by decide)) (2, 1 + A) k W (n + 1 + M + 1)
    rw [hp4] at f7
    generalize (writeS u (2, 1 + A) k W (n + 1 + M + 1)).1 = z at f7
    clear hI hF hp hp2 hp3 hp4 hFu
    obtain ⟨s1, s2, s3, s4⟩ := s
    obtain ⟨u1, u2, u3, u4⟩ := u
    obtain ⟨z1, z2, z3, z4⟩ := z
    simp only [stoC, txC, s0, List.map_nil] at f1 f3 p3 f4 p4 f5 p5 f6 p6 f7 p7
    simp only [rawsD]
    simp (implicitDefEqProofs := false) (maxSteps := 10000000) [ir_reredoskeep_WriteLater, h1, h2, h3, h4, h5, x1, x2, x3, x4, x5, f1, p1, f3, p3, f4, p4, f5, p5, f6, p6, f7, p7, q1, q1', q2, q2', q3, q3', q4, q4', q5, q5', q6, q6', r1, r2, r3, r4]
    all_goals exact rfl
end
end Go.Proofs.Ytjilpdgpdpibkaa
