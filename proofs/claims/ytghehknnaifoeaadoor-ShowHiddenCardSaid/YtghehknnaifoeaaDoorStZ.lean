/-
  What the laws on stores have in common; store.Writes and sameStore. Conditions: those of its specification's 'pre', and that the functions that are called are what theirs say.
-/
import Derived.Test.YtghehknnaifoeaaDoorStI
set_option linter.unusedVariables false
set_option linter.unusedSimpArgs false
namespace Go.Proofs.YtghehknnaifoeaaDoor
open Go Go.Vcg

theorem store_F (l : List Rw) (m : Nat) : sp_Store.F [rawsD l, .int .i64 (m : Int)] = .agg (stoC (storeK l m)) := by
  have e : sp_Store.F [rawsD l, .int .i64 (m : Int)] = stoD (storeK (rawsOf (rawsD l)) (m : Int).toNat) := rfl
  rw [e, rawsOf_rawsD, Int.toNat_natCast]
  rfl
theorem store_pre {l : List Rw} (h : okRaws l) {m : Nat} (hm : m ≤ 100) : sp_Store.pre [rawsD l, .int .i64 (m : Int)] = True := by
  simp only [sp_Store, eq_iff_iff, iff_true]; exact ⟨l, m, rfl, h, by omega⟩
theorem chk_F' {s : Sto} (h : OkS s) : sp_SCheck.F [.agg (stoC s)] = .int .i64 0 := by
  rw [chk_F, if_pos ((okS_iff s).2 h)]
theorem fewS_of {s : Sto} {n : Nat} (h : fewN s n) (hn : n ≤ 100) : fewS s := fewS'_fewS (fewN_fewS' h hn)
theorem addL_lock {s : Sto} {x : Lk} (h : noTx s (x.site, x.n)) : lockI (addL s x) (x.site, x.n) x.key = s.locks.length ∧ lockAt (addL s x) (lockI (addL s x) (x.site, x.n) x.key) = x := by
  have e : lockI (addL s x) (x.site, x.n) x.key = s.locks.length := by
    rw [lockI]
    refine idxOf_found (j := s.locks.length) (by simp [addL]) ?_ ?_
    · simp [addL, isTx]
    · intro i hi
      have : (addL s x).locks[i]'(by simp [addL]; omega) = s.locks[i] := by
        simp [addL, List.getElem_append_left hi]
      rw [this, h _ (List.getElem_mem hi)]
      rfl
  refine ⟨e, ?_⟩
  rw [e, lockAt, Int.toNat_natCast]
  simp [addL]
theorem busy_addL (s : Sto) (x : Lk) (t : Tx) (k : Int) (all : Bool) : busyB (addL s x) t k all = (busyB s t k all || (decide (x.key = k) && !isTx x.site x.n t && (all || x.wr))) := by
  simp [busyB, addL]
theorem read_own {s : Sto} {x : Lk} (hu : OkS (addL s x)) (h : noTx s (x.site, x.n)) (ht : okTx x.site x.n = true) (hk : 0 ≤ x.key ∧ x.key < 8) : readS (addL s x) (x.site, x.n) x.key = (addL s x, if x.wr = true then x.value else (itemAt s.items x.key).value, (itemAt s.items x.key).version, 0) := by
  have hc := callE_ok ((okS_iff _).2 hu) (t := (x.site, x.n)) ht hk
  obtain ⟨h1, h2⟩ := addL_lock h
  rw [readS, if_neg (by simp [hc]), if_pos (by omega), h2]
  split <;> rfl
theorem write_early {s : Sto} {x : Lk} (hu : OkS (addL s x)) (h : noTx s (x.site, x.n)) (ht : okTx x.site x.n = true) (hk : 0 ≤ x.key ∧ x.key < 8) {v q : Int} (hv : okVQ v q) (hq : q < x.ask) : writeS (addL s x) (x.site, x.n) x.key v q = (s0, 13) := by
  have hc := callE_ok ((okS_iff _).2 hu) (t := (x.site, x.n)) ht hk
  obtain ⟨h1, h2⟩ := addL_lock h
  rw [writeS, if_neg (by simp [hc]), if_neg (by simpa using hv), if_pos]
  exact .inr ⟨by omega, by rw [h2]; exact hq⟩
theorem write_late {s : Sto} {x : Lk} (hu : OkS (addL s x)) (h : noTx s (x.site, x.n)) (ht : okTx x.site x.n = true) (hk : 0 ≤ x.key ∧ x.key < 8) {v q : Int} (hv : okVQ v q) (hq : x.ask ≤ q) (ho : overB s (x.site, x.n) = false) (hb : busyB s (x.site, x.n) x.key true = false) (hver : (itemAt s.items x.key).version < 1048576) : (writeS (addL s x) (x.site, x.n) x.key v q).2 = 0 := by
  have hc := callE_ok ((okS_iff _).2 hu) (t := (x.site, x.n)) ht hk
  obtain ⟨h1, h2⟩ := addL_lock h
  have ho' : overB (addL s x) (x.site, x.n) = false := ho
  have hv' : (itemAt (addL s x).items x.key).version < 1048576 := hver
  rw [writeS, if_neg (by simp [hc]), if_neg (by simpa using hv), if_neg (by
    rintro (h' | ⟨_, h'⟩)
    · rw [ho'] at h'; cases h'
    · rw [h2] at h'; omega), if_neg (by
      rw [busy_addL, hb]
      simp [isTx]), if_neg (by
      rintro (⟨h', _⟩ | h')
      · omega
      · omega)]
def wrN (l : List Lk) (t : Tx) : Nat := l.countP fun x => isTx x.site x.n t && x.wr
theorem wrN_succ (l : List Lk) (t : Tx) {j : Nat} (hj : j < l.length) : wrN (l.take (j + 1)) t = wrN (l.take j) t + if (isTx l[j].site l[j].n t && l[j].wr) = true then 1 else 0 := by
  rw [wrN, List.take_succ_eq_append_getElem hj, List.countP_append]
  simp [wrN]
theorem wrN_le (l : List Lk) (t : Tx) : wrN l t ≤ l.length := List.countP_le_length
noncomputable def writesS (s : Sto) (t : Tx) : Int × Int := if callE s t 0 ≠ 0 then (0, callE s t 0) else ((wrN s.locks t : Nat), 0)
noncomputable def sp_Writes : Sp := { pre := fun ds => ∃ (s : Sto) (t : Tx), ds = [stoD s, .agg (txC t)] ∧ fewS' s, F := fun | [s, .agg t] => .tup [.int .i64 (writesS (stoOf s) (txOf t)).1, .int .i64 (writesS (stoOf s) (txOf t)).2] | _ => .any }
theorem writes_F (s : Sto) (t : Tx) : sp_Writes.F [.agg (stoC s), .agg (txC t)] = .tup [.int .i64 (writesS s t).1, .int .i64 (writesS s t).2] := by
  have e : D.agg (stoC s) = stoD s := rfl
  simp only [sp_Writes, e, stoOf_stoD, txOf_txC]
theorem writes_pre {s : Sto} (h : fewS' s) (t : Tx) : sp_Writes.pre [.agg (stoC s), .agg (txC t)] = True := by
  simp only [sp_Writes, eq_iff_iff, iff_true]; exact ⟨s, t, rfl, h⟩
def sp_same : Sp := { pre := fun ds => ∃ s : Sto, ds = [stoD s, stoD s] ∧ fewS s, F := fun _ => .bool true }
theorem same_pre {s : Sto} (h : fewS s) : sp_same.pre [.agg (stoC s), .agg (stoC s)] = True := by
  simp only [sp_same, eq_iff_iff, iff_true]; exact ⟨s, rfl, h⟩
theorem noTx_addL {s : Sto} {x : Lk} {t : Tx} (h : noTx s t) (hx : isTx x.site x.n t = false) : noTx (addL s x) t := by
  intro y hy
  simp only [addL, List.mem_append, List.mem_singleton] at hy
  rcases hy with hy | rfl
  · exact h y hy
  · exact hx
theorem wrN_zero {l : List Lk} {t : Tx} (h : ∀ x ∈ l, isTx x.site x.n t = false) : wrN l t = 0 := by
  rw [wrN, List.countP_eq_zero]
  intro x hx
  simp [h x hx]
theorem filter_noTx {l : List Lk} {t : Tx} (h : ∀ x ∈ l, isTx x.site x.n t = false) : l.filter (fun x => !isTx x.site x.n t) = l := by
  rw [List.filter_eq_self]
  intro x hx
  simp [h x hx]
theorem end_plain {s : Sto} (h : InvK 30 s) {t : Tx} (ht : 0 ≤ t.1 ∧ t.1 < 2 ∧ 1 ≤ t.2 ∧ t.2 ≤ 5) (yes : Bool) : ∃ u, endS s t yes = (u, 0) ∧ OkS u ∧ noTx u t ∧ endS u t (!yes) = (u, 0) ∧ readS u t 7 = (s0, 0, 0, 13) ∧ writeS u t 7 1 1 = (s0, 13) ∧ u.locks = s.locks.filter (fun x => !isTx x.site x.n t) ∧ wrN u.locks t = 0 := by
  have ht' : okTx t.1 t.2 = true := okTx_of ⟨ht.1, by omega⟩ ⟨ht.2.2.1, by omega⟩
  have c0 : callE s t 0 = 0 := callE_ok ((okS_iff s).2 h.ok) ht' ⟨by omega, by omega⟩
  have hu := okS_end h.ok ht' yes (K := 5) (m := (24 * 30 : Nat)) (by omega) (by omega) h.its (fun x hx => (h.lks x hx).1)
  have hE : endS s t yes = ((endS s t yes).1, 0) := by rw [endS, if_neg (by simp [c0])]
  have h1 : (endS s t yes).1.locks = s.locks.filter (fun x => !isTx x.site x.n t) := by rw [endS, if_neg (by simp [c0])]
  have h2 : (endS s t yes).1.doubts = s.doubts.filter (fun x => !isTx x.site x.n t) := by rw [endS, if_neg (by simp [c0])]
  have h3 : (endS s t yes).1.over = overL s.over t := by rw [endS, if_neg (by simp [c0])]
  generalize (endS s t yes).1 = u at hu hE h1 h2 h3
  have hn : noTx u t := by
    intro x hx
    rw [h1, List.mem_filter] at hx
    simpa using hx.2
  have ho : overB u t = true := over_iff.2 (by rw [h3]; exact mem_overL.2 (.inr rfl))
  have hu' := (okS_iff u).2 hu
  have c1 : callE u t 0 = 0 := callE_ok hu' ht' ⟨by omega, by omega⟩
  have c7 : callE u t 7 = 0 := callE_ok hu' ht' ⟨by omega, by omega⟩
  have hl := lockI_noTx hn 7
  refine ⟨u, hE, hu, hn, ?_, ?_, ?_, h1, ?_⟩
  · rw [endS, if_neg (by simp [c1]), endIts_others t (!yes) u.locks u.items hn]
    have e1 : u.locks.filter (fun x => !isTx x.site x.n t) = u.locks := by
      rw [h1, List.filter_filter]
      simp
    have e2 : u.doubts.filter (fun x => !isTx x.site x.n t) = u.doubts := by
      rw [h2, List.filter_filter]
      simp
    have e3 : overL u.over t = u.over := by
      rw [overL, if_pos]
      exact ho
    rw [e1, e2, e3]
  · rw [readS, if_neg (by simp [c7]), if_neg (by omega), if_pos ho]
  · rw [writeS, if_neg (by simp [c7]), if_neg (by simp [okVQ]), if_pos (.inl ho)]
  · rw [wrN, List.countP_eq_zero]
    intro x hx
    simp [hn x hx]
theorem looks_plain {s : Sto} (h : InvK 30 s) {c a k : Int} (hc : 2 ≤ c ∧ c < 4) (ha : 1 ≤ a ∧ a ≤ 9) (hk : 0 ≤ k ∧ k < 8) : (peekS s k = (0, 0, 11) ∧ readS s (c, a) k = (s0, 0, 0, 11)) ∨ ∃ v n, peekS s k = (v, n, 0) ∧ readS s (c, a) k = (addL s ⟨c, a, k, false, 0, 0⟩, v, n, 0) ∧ peekS (addL s ⟨c, a, k, false, 0, 0⟩) k = (v, n, 0) ∧ OkS (addL s ⟨c, a, k, false, 0, 0⟩) ∧ v = (itemAt s.items k).value ∧ n = (itemAt s.items k).version := by
  have hp := peek_new h hk
  have hr := read_new h (t := (c, a)) hc (by simp only; omega) hk
  cases hb : s.locks.any fun x => decide (x.key = k) && x.wr
  · right
    rw [hb] at hp hr
    have hu : OkS (addL s ⟨c, a, k, false, 0, 0⟩) := okS_addL h hc (by simp only; omega) (lkR_read hk) (by simpa using hb)
    refine ⟨_, _, hp, hr, ?_, hu, rfl, rfl⟩
    have c1 : callE (addL s ⟨c, a, k, false, 0, 0⟩) (0, 1) k = 0 := callE_ok ((okS_iff _).2 hu) (by simp [okTx]) hk
    have hbz : busyB (addL s ⟨c, a, k, false, 0, 0⟩) (0, 0) k false = false := by
      have := busy_noTx (noTx_zero h 0) k false
      simp only [Bool.false_or] at this
      rw [busy_addL, this, hb]
      simp
    rw [peekS, if_neg (by simp [c1]), if_neg (by simp [hbz])]
    rfl
  · left
    rw [hb] at hp hr
    exact ⟨hp, hr⟩
section
variable {T : Tb}
attribute [local simp] k_seq k_block k_skip k_reg k_alt k_cond k_exit k_ret kf_nil kf_seq_n kf_seq_e kf_seq_r kf_blk_n kf_blk_e kf_blk_r kf_lp_n kf_lp_e kf_lp_r kf_cut_n kf_cut_e kf_cut_r mkTm VCops VCalt istep act gd applyE wrapD Opd.ev get_mk set_mk set_mk0 tget16 tset16 tget_0 tset_0 tget_1 tset_1 tget_2 tset_2 tget_3 tset_3 tget_4 tset_4 tget_5 tset_5 tget_6 tset_6 tget_7 tset_7 tget_8 tset_8 tget_9 tset_9 tget_10 tset_10 tget_11 tset_11 tget_12 tset_12 tget_13 tset_13 tget_14 tset_14 tget_15 tset_15 D.un D.gu gus IOp.opds binD fnPost getRes IRes.get oneRes D.out outL D.clos closL D.norow norowL D.lv lvL D.scal scalL D.cells D.cell D.cell' St.lk obPut obDel List.lookup cut pickD splice fillParts fillRows elem_cons newsOf D.pl D.forget forgetL Ob.forget forgetO eqCells sg leD leDL leOb apartK St.le D.keys keysL D.rows rowsL obKeys addKeys reach pos D.ren renL Ob.ren inM outM inObs outObs goneK apartN okNames_eq okNms obNms namesOK_nil namesOK_cons freeOK_nil freeOK_cons D.frz frzL Ob.frz frzO St.frz forgetLs dropObs putObs hcall freeOf keeps baseN shD isShift shMax k_bad VCopsG frz_nil actx actc cnum vwCut St.frzT St.opnT St.clsT D.opn opnL Ob.opn opnO VCou VCcx St.oneS D.objI D.objK scrL D.scr St.opnS St.clsS D.cellS D.fzs fzsL k_mrk k_mrq IOper.gh
set_option maxRecDepth 100000 in
set_option maxHeartbeats 8000000 in
theorem v_Writes (h1 : T.sp n_store_call = some sp_call) : Verified T ir_store_Writes sp_Writes := by
  refine Verified.mk ?_
  rintro ds ⟨s, ⟨t1, t2⟩, rfl, hf'⟩
  have hf := fewS'_fewS hf'
  simp only [sp_Writes, stoOf_stoD, txOf_txC]
  have x1 : sp_call.hx = none := rfl
  have f1 := call_F s (t1, t2) 0
  have p1 := call_pre hf (t1, t2) 0
  by_cases hc : callE s (t1, t2) 0 = 0
  · rw [hc] at f1
    have hr : writesS s (t1, t2) = (((wrN s.locks (t1, t2) : Nat) : Int), 0) := by rw [writesS, if_neg (by simp [hc])]
    rw [hr]
    clear hr hc
    obtain ⟨a, l, c, d⟩ := s
    have hl : l.length ≤ 10000 := hf'.2.1
    simp only [stoC, txC] at f1 p1 ⊢
    simp (implicitDefEqProofs := false) (maxSteps := 10000000) [ir_store_Writes, stoD, stoC, txC, h1, x1, f1, p1]
    refine k_loop (ι := {j : Nat // j ≤ l.length}) (fun x => ⟨mkTm 35 0 [(2, .own 2 0), (3, .own 3 0), (7, .int .i64 (wrN (l.take x.1) (t1, t2) : Nat)), (17, .fz 6 (l.map lkC)), (18, .int .i64 l.length), (19, .int .i64 x.1)], [(2, .box [.fz 3 (a.map itC), .fz 6 (l.map lkC), .fz 3 (c.map dbC), .fz 2 (d.map txC)]), (3, .box [.int .i64 t1, .int .i64 t2])]⟩)
      (fun x => l.length - x.1) [] ⟨0, by omega⟩ (by simp (implicitDefEqProofs := false) (maxSteps := 10000000) [wrN]) ?_
    rintro ⟨j, hj⟩ P hQ
    by_cases hjl : j < l.length
    · have hjl' : (j : Int) < l.length := by omega
      have hel := elem_map lkC l j hjl
      have hst := wrN_succ l (t1, t2) hjl
      have hle := wrN_le (l.take j) (t1, t2)
      have hle' : (l.take j).length ≤ j := by simp; omega
      generalize wrN (l.take j) (t1, t2) = n at hst hle hQ
      generalize l[j] = x at hel hst
      obtain ⟨a1, a2, k, w, v, q⟩ := x
      simp only [lkC] at hel
      simp only [isTx] at hst
      have hgo : ∀ s', (∃ σ, St.le σ s' ⟨mkTm 35 0 [(2, .own 2 0), (3, .own 3 0), (7, .int .i64 ((n + if (decide (a1 = t1 ∧ a2 = t2) && w) = true then 1 else 0 : Nat) : Int)), (17, .fz 6 (l.map lkC)), (18, .int .i64 l.length), (19, .int .i64 (j + 1 : Nat))], [(2, .box [.fz 3 (a.map itC), .fz 6 (l.map lkC), .fz 3 (c.map dbC), .fz 2 (d.map txC)]), (3, .box [.int .i64 t1, .int .i64 t2])]⟩) → P s' := by
        rintro s' ⟨σ, hs'⟩
        refine hQ s' σ ⟨j + 1, by omega⟩ ?_ (by simp only; omega)
        simp only [hst]
        exact hs'
      clear hQ
      by_cases e1 : a1 = t1 ∧ a2 = t2
      · obtain ⟨rfl, rfl⟩ := e1
        cases w
        · simp (implicitDefEqProofs := false) (maxSteps := 10000000) [ir_store_Writes_b0, hjl', hel]
          exact ⟨hjl, by simp only [inR]; omega, hgo _ ⟨[], by simp (implicitDefEqProofs := false) (maxSteps := 10000000)⟩⟩
        · simp (implicitDefEqProofs := false) (maxSteps := 10000000) [ir_store_Writes_b0, hjl', hel]
          exact ⟨hjl, by simp only [inR]; omega, by simp only [inR]; omega, hgo _ ⟨[], by simp (implicitDefEqProofs := false) (maxSteps := 10000000)⟩⟩
      · have e2 : a1 = t1 → ¬ a2 = t2 := fun h h' => e1 ⟨h, h'⟩
        simp (implicitDefEqProofs := false) (maxSteps := 10000000) [ir_store_Writes_b0, hjl', hel, e1]
        exact ⟨hjl, by simp only [inR]; omega, hgo _ ⟨[], by simp (implicitDefEqProofs := false) (maxSteps := 10000000) [e1]⟩⟩
    · have hjn : j = l.length := by omega
      subst hjn
      simp (implicitDefEqProofs := false) (maxSteps := 10000000) [ir_store_Writes_b0, ir_store_Writes_r1]
  · have hr : writesS s (t1, t2) = (0, callE s (t1, t2) 0) := by rw [writesS, if_pos hc]
    rw [hr]
    generalize callE s (t1, t2) 0 = e at hc f1
    obtain ⟨a, b, c, d⟩ := s
    simp only [stoC, txC] at f1 p1
    simp (implicitDefEqProofs := false) (maxSteps := 10000000) [ir_store_Writes, stoD, stoC, txC, h1, x1, f1, p1, hc]
end
end Go.Proofs.YtghehknnaifoeaaDoor
