/-
  Stores that may be: what checks them computes what the plain functions beside it say. Conditions: those of each specification's 'pre', and that the functions that are called are what theirs say.
-/
import Derived.Test.YtghehknnaifoeaaDoorSt2
set_option linter.unusedVariables false
set_option linter.unusedSimpArgs false
namespace Go.Proofs.YtghehknnaifoeaaDoor
open Go Go.Vcg

def db0 : Db := ⟨0, 0, 0⟩
def lk0 : Lk := ⟨0, 0, 0, false, 0, 0⟩
def tx0 : Tx := (0, 0)
def okDb (s : Sto) (d : Db) : Bool := okTx d.site d.n && decide (0 ≤ d.age) && decide (d.age ≤ 1048576) && !(s.over.any fun u => isTx u.1 u.2 (d.site, d.n)) && (s.locks.any fun x => isTx x.site x.n (d.site, d.n))
def sameD (a b : Db) : Prop := a.site = b.site ∧ a.n = b.n
def okDoubts (s : Sto) (j : Nat) : Prop := ∀ i, i < j → okDb s (s.doubts.getD i db0) = true ∧ ∀ k, k < i → ¬ sameD (s.doubts.getD k db0) (s.doubts.getD i db0)
def okOver (l : List Tx) (j : Nat) : Prop := ∀ i, i < j → okTx (l.getD i tx0).1 (l.getD i tx0).2 = true ∧ ((l.take i).any fun u => isTx u.1 u.2 (l.getD i tx0)) = false
def okLk (s : Sto) (x : Lk) : Bool := doubtedB s (x.site, x.n) && decide (0 ≤ x.key) && decide (x.key < 8) && decide (0 ≤ x.value) && decide (x.value ≤ 1073741824) && decide (0 ≤ x.ask) && decide (x.ask ≤ 1048576) && (x.wr || decide (x.value + x.ask = 0))
/-- They exclude each other. -/
def clash (y x : Lk) : Bool := decide (y.key = x.key) && ((decide (y.site = x.site) && decide (y.n = x.n)) || y.wr || x.wr)
def okLocks (s : Sto) (j : Nat) : Prop := ∀ i, i < j → okLk s (s.locks.getD i lk0) = true ∧ ∀ k, k < i → clash (s.locks.getD k lk0) (s.locks.getD i lk0) = false
open Classical in
noncomputable def okDoubtsB (s : Sto) : Bool := decide (okDoubts s s.doubts.length ∧ okOver s.over s.over.length)
open Classical in
noncomputable def okLocksB (s : Sto) : Bool := decide (okLocks s s.locks.length ∧ s.locks.length ≤ 24)
theorem okDoubtsB_iff {s : Sto} : okDoubtsB s = true ↔ okDoubts s s.doubts.length ∧ okOver s.over s.over.length := by simp [okDoubtsB]
theorem okLocksB_iff {s : Sto} : okLocksB s = true ↔ okLocks s s.locks.length ∧ s.locks.length ≤ 24 := by simp [okLocksB]
noncomputable def sp_doubts : Sp := { pre := fun ds => ∃ s : Sto, ds = [stoD s] ∧ fewS s, F := fun | [s] => .bool (okDoubtsB (stoOf s)) | _ => .any }
noncomputable def sp_locks : Sp := { pre := fun ds => ∃ s : Sto, ds = [stoD s] ∧ fewS s, F := fun | [s] => .bool (okLocksB (stoOf s)) | _ => .any }
/-- A store that may be. -/
noncomputable def okS (s : Sto) : Bool := okItemsB s.items && okDoubtsB s && okLocksB s
noncomputable def sp_SCheck : Sp := { pre := fun ds => ∃ s : Sto, ds = [stoD s] ∧ fewS s, F := fun | [s] => .int .i64 (if okS (stoOf s) = true then 0 else 9) | _ => .any }
noncomputable def callE (s : Sto) (t : Tx) (k : Int) : Int := if okS s = true then (if okTx t.1 t.2 = true ∧ 0 ≤ k ∧ k < 8 then 0 else 2) else 9
noncomputable def sp_call : Sp := { pre := fun ds => ∃ (s : Sto) (t : Tx) (k : Int), ds = [stoD s, .agg (txC t), .int .i64 k] ∧ fewS s, F := fun | [s, .agg t, .int _ k] => .int .i64 (callE (stoOf s) (txOf t) k) | _ => .any }

theorem okDoubts_succ {s : Sto} {j : Nat} : okDoubts s (j + 1) ↔ okDoubts s j ∧ okDb s (s.doubts.getD j db0) = true ∧ ∀ k, k < j → ¬ sameD (s.doubts.getD k db0) (s.doubts.getD j db0) := by
  constructor
  · intro h
    exact ⟨fun i hi => h i (by omega), h j (by omega)⟩
  · rintro ⟨h1, h2⟩ i hi
    by_cases e : i = j
    · subst e; exact h2
    · exact h1 i (by omega)
theorem okOver_succ {l : List Tx} {j : Nat} : okOver l (j + 1) ↔ okOver l j ∧ okTx (l.getD j tx0).1 (l.getD j tx0).2 = true ∧ ((l.take j).any fun u => isTx u.1 u.2 (l.getD j tx0)) = false := by
  constructor
  · intro h
    exact ⟨fun i hi => h i (by omega), h j (by omega)⟩
  · rintro ⟨h1, h2⟩ i hi
    by_cases e : i = j
    · subst e; exact h2
    · exact h1 i (by omega)
theorem okLocks_succ {s : Sto} {j : Nat} : okLocks s (j + 1) ↔ okLocks s j ∧ okLk s (s.locks.getD j lk0) = true ∧ ∀ k, k < j → clash (s.locks.getD k lk0) (s.locks.getD j lk0) = false := by
  constructor
  · intro h
    exact ⟨fun i hi => h i (by omega), h j (by omega)⟩
  · rintro ⟨h1, h2⟩ i hi
    by_cases e : i = j
    · subst e; exact h2
    · exact h1 i (by omega)

section
variable {T : Tb}
attribute [local simp] k_seq k_block k_skip k_reg k_alt k_cond k_exit k_ret kf_nil kf_seq_n kf_seq_e kf_seq_r kf_blk_n kf_blk_e kf_blk_r kf_lp_n kf_lp_e kf_lp_r kf_cut_n kf_cut_e kf_cut_r mkTm VCops VCalt istep act gd applyE wrapD Opd.ev get_mk set_mk set_mk0 tget16 tset16 tget_0 tset_0 tget_1 tset_1 tget_2 tset_2 tget_3 tset_3 tget_4 tset_4 tget_5 tset_5 tget_6 tset_6 tget_7 tset_7 tget_8 tset_8 tget_9 tset_9 tget_10 tset_10 tget_11 tset_11 tget_12 tset_12 tget_13 tset_13 tget_14 tset_14 tget_15 tset_15 D.un D.gu gus IOp.opds binD fnPost getRes IRes.get oneRes D.out outL D.clos closL D.norow norowL D.lv lvL D.scal scalL D.cells D.cell D.cell' St.lk obPut obDel List.lookup cut pickD splice fillParts fillRows elem_cons newsOf D.pl D.forget forgetL Ob.forget forgetO eqCells sg leD leDL leOb apartK St.le D.keys keysL D.rows rowsL obKeys addKeys reach pos D.ren renL Ob.ren inM outM inObs outObs goneK apartN okNames_eq okNms obNms namesOK_nil namesOK_cons freeOK_nil freeOK_cons D.frz frzL Ob.frz frzO St.frz forgetLs dropObs putObs hcall freeOf keeps baseN shD isShift shMax k_bad VCopsG frz_nil actx actc cnum vwCut St.frzT St.opnT St.clsT D.opn opnL Ob.opn opnO VCou VCcx St.oneS D.objI D.objK scrL D.scr St.opnS St.clsS D.cellS D.fzs fzsL k_mrk k_mrq IOper.gh
set_option maxRecDepth 100000 in
set_option maxHeartbeats 8000000 in
theorem v_locks (h1 : T.sp n_store_doubted = some sp_doubted) : Verified T ir_store_locks sp_locks := by
  refine Verified.mk ?_
  rintro ds ⟨⟨its, l, db, ov⟩, rfl, hf⟩
  simp only [sp_locks, stoOf_stoD]
  have hl : l.length ≤ 100000 := hf.2.1
  have hx : sp_doubted.hx = none := rfl
  have hF : ∀ a b, sp_doubted.F [.agg [.fz 3 (its.map itC), .fz 6 (l.map lkC), .fz 3 (db.map dbC), .fz 2 (ov.map txC)], .agg [.int .i64 a, .int .i64 b]] = .bool (doubtedB ⟨its, l, db, ov⟩ (a, b)) := fun a b => by
    have e : D.agg [.fz 3 (its.map itC), .fz 6 (l.map lkC), .fz 3 (db.map dbC), .fz 2 (ov.map txC)] = stoD ⟨its, l, db, ov⟩ := rfl
    simp only [sp_doubted, e, stoOf_stoD]
    rfl
  have hP : ∀ a b, sp_doubted.pre [.agg [.fz 3 (its.map itC), .fz 6 (l.map lkC), .fz 3 (db.map dbC), .fz 2 (ov.map txC)], .agg [.int .i64 a, .int .i64 b]] = True := fun a b => by
    simp only [sp_doubted, eq_iff_iff, iff_true]; exact ⟨_, (a, b), rfl, hf⟩
  have et : okLocks ⟨its, l, db, ov⟩ l.length → okLocksB ⟨its, l, db, ov⟩ = decide (l.length ≤ 24) := fun h => by
    by_cases h4 : l.length ≤ 24
    · rw [decide_eq_true h4]; exact okLocksB_iff.2 ⟨h, h4⟩
    · rw [decide_eq_false h4]
      cases hb : okLocksB ⟨its, l, db, ov⟩
      · rfl
      · exact absurd (okLocksB_iff.1 hb).2 h4
  have ef : ¬ okLocks ⟨its, l, db, ov⟩ l.length → okLocksB ⟨its, l, db, ov⟩ = false := fun h => by
    cases hb : okLocksB ⟨its, l, db, ov⟩
    · rfl
    · exact absurd (okLocksB_iff.1 hb).1 h
  generalize okLocksB ⟨its, l, db, ov⟩ = r at et ef
  simp (implicitDefEqProofs := false) [ir_store_locks, stoD, stoC]
  refine k_loop (ι := {j : Nat // j ≤ l.length ∧ okLocks ⟨its, l, db, ov⟩ j}) (fun x => ⟨mkTm 98 0 [(1, .own 1 0), (8, .fz 6 (l.map lkC)), (9, .int .i64 l.length), (10, .int .i64 x.1)], [(1, .box [.fz 3 (its.map itC), .fz 6 (l.map lkC), .fz 3 (db.map dbC), .fz 2 (ov.map txC)])]⟩)
    (fun x => l.length - x.1) [] ⟨0, by omega, fun i hi => by omega⟩ (by simp (implicitDefEqProofs := false)) ?_
  rintro ⟨j, hj, hinv⟩ P hQ
  by_cases hjl : j < l.length
  · have hjl' : (j : Int) < l.length := by omega
    have hel := elem_map lkC l j hjl
    have hgd : l.getD j lk0 = l[j] := by simp [List.getD, hjl]
    have hsucc := okLocks_succ (s := ⟨its, l, db, ov⟩) (j := j)
    have hbad : ¬ (okLk ⟨its, l, db, ov⟩ (l.getD j lk0) = true ∧ ∀ k, k < j → clash (l.getD k lk0) (l.getD j lk0) = false) → r = false := fun hb => ef fun hall => hb (hall j hjl)
    simp only at hsucc
    rw [hgd] at hsucc hbad
    generalize l[j] = x at hel hsucc hbad
    obtain ⟨a, b, k, w, v, q⟩ := x
    simp only [lkC, okLk, Bool.and_eq_true, decide_eq_true_eq, Bool.or_eq_true] at hel hsucc hbad
    have hFa := hF a b
    have hPa := hP a b
    clear hF hP
    generalize doubtedB ⟨its, l, db, ov⟩ (a, b) = du at hsucc hbad hFa
    simp (implicitDefEqProofs := false) [ir_store_locks_b2, hjl', hjl, hel, h1, hx, hFa, hPa]
    refine ⟨fun g1 g2 g3 g4 g5 g6 g7 g8 => ⟨⟨⟨⟨⟨⟨⟨⟨g1, g2⟩, g3⟩, g4⟩, g5⟩, g6⟩, g7⟩, g8⟩, by simp only [inR]; omega⟩, fun g1 g2 g3 g4 g5 g6 g7 => ⟨⟨⟨⟨⟨⟨⟨g1, g2⟩, g3⟩, g4⟩, g5⟩, g6⟩, g7⟩, fun g8 => ⟨⟨⟨⟨⟨⟨⟨g1, g2⟩, g3⟩, g4⟩, g5⟩, g6⟩, g7⟩, g8⟩⟩, fun h => hbad (by
      rintro ⟨⟨⟨⟨⟨⟨⟨⟨g1, g2⟩, g3⟩, g4⟩, g5⟩, g6⟩, g7⟩, g8⟩, _⟩
      grind), fun g1 g2 g3 g4 g5 g6 g7 g8 => ⟨hj, ?_⟩⟩
    have hw8 : w = true ∨ v + q = 0 := by
      cases w
      · exact .inr (g8 rfl)
      · exact .inl rfl
    have hmin : min j l.length = j := Nat.min_eq_left hj
    replace hbad : (∃ i, i < j ∧ clash (l.getD i lk0) ⟨a, b, k, w, v, q⟩ = true) → r = false := fun ⟨i, hi, hc⟩ => hbad fun hh => by
      rw [hh.2 i hi] at hc
      cases hc
    replace hsucc : (∀ i, i < j → clash (l.getD i lk0) ⟨a, b, k, w, v, q⟩ = false) → okLocks ⟨its, l, db, ov⟩ (j + 1) := fun h => hsucc.2 ⟨hinv, ⟨⟨⟨⟨⟨⟨⟨⟨g1, g2⟩, g3⟩, g4⟩, g5⟩, g6⟩, g7⟩, hw8⟩, h⟩⟩
    refine k_loop (ι := {m : Nat // m ≤ j ∧ ∀ i, i < m → clash (l.getD i lk0) ⟨a, b, k, w, v, q⟩ = false}) (fun x => ⟨mkTm 98 0 [(1, .own 1 0), (4, .own 4 0), (8, .fz 6 (l.map lkC)), (9, .int .i64 l.length), (10, .int .i64 j), (66, .fz 6 ((l.map lkC).take j)), (67, .int .i64 j), (68, .int .i64 x.1)], [(1, .box [.fz 3 (its.map itC), .fz 6 (l.map lkC), .fz 3 (db.map dbC), .fz 2 (ov.map txC)]), (4, .box [.int .i64 a, .int .i64 b, .int .i64 k, .bool w, .int .i64 v, .int .i64 q])]⟩)
      (fun x => j - x.1) [] ⟨0, by omega, fun i hi => by omega⟩ (by simp (implicitDefEqProofs := false) [hmin]) ?_
    rintro ⟨m, hm, hinv2⟩ Q hR
    by_cases hmj : m < j
    · have hml : m < l.length := by omega
      have hmj' : (m : Int) < j := by omega
      have hel2 : elem (List.take j (List.map lkC l)) m = lkC l[m] := by
        rw [← List.map_take, elem_map lkC (l.take j) m (by simp; omega)]
        simp
      have hlen2 : (List.take j (List.map lkC l)).length = j := by simp; omega
      have hgd2 : l.getD m lk0 = l[m] := by simp [List.getD, hml]
      have hb2 : clash l[m] ⟨a, b, k, w, v, q⟩ = true → r = false := fun h => hbad ⟨m, hmj, by rw [hgd2]; exact h⟩
      have hs2 : clash l[m] ⟨a, b, k, w, v, q⟩ = false → ∀ i, i < m + 1 → clash (l.getD i lk0) ⟨a, b, k, w, v, q⟩ = false := fun h i hi => by
        by_cases e : i = m
        · subst e; rw [hgd2]; exact h
        · exact hinv2 i (by omega)
      generalize l[m] = y at hel2 hb2 hs2
      obtain ⟨a', b', k', w', v', q'⟩ := y
      simp only [lkC] at hel2
      simp only [clash] at hb2
      simp (implicitDefEqProofs := false) [ir_store_locks_b0, hmj', hmj, hlen2, hel2]
      exact ⟨by grind, by grind, fun hk hh => hb2 (by grind), fun h => ⟨by simp only [inR]; omega, hR _ [] ⟨m + 1, by omega, hs2 (by simp only [clash]; grind)⟩ (by simp (implicitDefEqProofs := false)) (by simp only; omega)⟩⟩
    · have hmj2 : m = j := by omega
      subst hmj2
      simp (implicitDefEqProofs := false) [ir_store_locks_b0, ir_store_locks_r1]
      exact ⟨by simp only [inR]; omega, hQ _ [] ⟨m + 1, by omega, hsucc hinv2⟩ (by simp (implicitDefEqProofs := false)) (by simp only; omega)⟩
  · have hjl' : j = l.length := by omega
    subst hjl'
    have := et hinv
    simp (implicitDefEqProofs := false) [ir_store_locks_b2, ir_store_locks_r3, this]
    try omega

set_option maxRecDepth 100000 in
set_option maxHeartbeats 8000000 in
theorem v_doubts (h1 : T.sp n_store_txn = some sp_stxn) (h2 : T.sp n_slices_Contains_reredos_api_Txn_reredos_api_Txn = some sp_ContT) (h3 : T.sp n_slices_ContainsFunc_reredos_api_Lock_reredos_api_Lock = some sp_ContL) : Verified T ir_store_doubts sp_doubts := by
  refine Verified.mk ?_
  rintro ds ⟨⟨its, lks, l, ov⟩, rfl, hf⟩
  simp only [sp_doubts, stoOf_stoD]
  have hl : l.length ≤ 100000 := hf.2.2.1
  have hlk : lks.length ≤ 100000 := hf.2.1
  have hov : ov.length ≤ 100000 := hf.2.2.2
  have hx1 : sp_stxn.hx = none := rfl
  have hx2 : sp_ContT.hx = none := rfl
  have hx3 : sp_ContL.hx = none := rfl
  have hF1 : ∀ a b, sp_stxn.F [.agg [.int .i64 a, .int .i64 b]] = .bool (okTx a b) := fun a b => rfl
  have hP1 : ∀ a b, sp_stxn.pre [.agg [.int .i64 a, .int .i64 b]] = True := fun a b => by
    simp only [sp_stxn, eq_iff_iff, iff_true]; exact ⟨(a, b), rfl⟩
  have hF2 := fun a b => contT_F ov (a, b)
  have hP2 := fun a b => contT_pre (l := ov) (a, b) hov
  have hF3 := fun d => contL_F (l := lks) (CloL.doubts d)
  have hP3 := fun d => contL_pre (l := lks) (CloL.doubts d) hlk
  simp only [txC] at hF2 hP2
  simp only [n_store_doubts_1, dbC] at hF3 hP3
  have ef : ¬ okDoubts ⟨its, lks, l, ov⟩ l.length → okDoubtsB ⟨its, lks, l, ov⟩ = false := fun h => by
    cases hb : okDoubtsB ⟨its, lks, l, ov⟩
    · rfl
    · exact absurd (okDoubtsB_iff.1 hb).1 h
  have ef2 : ¬ okOver ov ov.length → okDoubtsB ⟨its, lks, l, ov⟩ = false := fun h => by
    cases hb : okDoubtsB ⟨its, lks, l, ov⟩
    · rfl
    · exact absurd (okDoubtsB_iff.1 hb).2 h
  have et : okDoubts ⟨its, lks, l, ov⟩ l.length → okOver ov ov.length → okDoubtsB ⟨its, lks, l, ov⟩ = true := fun h g => okDoubtsB_iff.2 ⟨h, g⟩
  generalize okDoubtsB ⟨its, lks, l, ov⟩ = r at et ef ef2
  simp (implicitDefEqProofs := false) [ir_store_doubts, stoD, stoC]
  refine k_loop (ι := {j : Nat // j ≤ l.length ∧ okDoubts ⟨its, lks, l, ov⟩ j}) (fun x => ⟨mkTm 79 0 [(1, .own 1 0), (10, .fz 3 (l.map dbC)), (11, .int .i64 l.length), (12, .int .i64 x.1)], [(1, .box [.fz 3 (its.map itC), .fz 6 (lks.map lkC), .fz 3 (l.map dbC), .fz 2 (ov.map txC)])]⟩)
    (fun x => l.length - x.1) [] ⟨0, by omega, fun i hi => by omega⟩ (by simp (implicitDefEqProofs := false)) ?_
  rintro ⟨j, hj, hinv⟩ P hQ
  by_cases hjl : j < l.length
  · have hjl' : (j : Int) < l.length := by omega
    have hel := elem_map dbC l j hjl
    have hgd : l.getD j db0 = l[j] := by simp [List.getD, hjl]
    have hsucc := okDoubts_succ (s := ⟨its, lks, l, ov⟩) (j := j)
    have hbad : ¬ (okDb ⟨its, lks, l, ov⟩ (l.getD j db0) = true ∧ ∀ k, k < j → ¬ sameD (l.getD k db0) (l.getD j db0)) → r = false := fun hb => ef fun hall => hb (hall j hjl)
    simp only at hsucc
    rw [hgd] at hsucc hbad
    generalize l[j] = x at hel hsucc hbad
    have hF3' := hF3 x
    have hP3' := hP3 x
    obtain ⟨a, b, q⟩ := x
    have hF1' := hF1 a b
    have hP1' := hP1 a b
    have hF2' := hF2 a b
    have hP2' := hP2 a b
    simp only [okDb, Bool.and_eq_true, decide_eq_true_eq, Bool.not_eq_true'] at hsucc hbad
    simp only [dbC] at hel
    clear hF1 hP1 hF2 hP2 hF3 hP3
    generalize okTx a b = o1 at hsucc hbad hF1'
    generalize (ov.any fun u => isTx u.1 u.2 (a, b)) = o2 at hsucc hbad hF2'
    generalize (lks.any fun x => isTx x.site x.n (a, b)) = o3 at hsucc hbad hF3'
    simp (implicitDefEqProofs := false) [ir_store_doubts_b2, hjl', hjl, hel, h1, h2, h3, hx1, hx2, hx3, hF1', hP1', hF2', hP2', hF3', hP3']
    refine ⟨fun h => hbad (by
      rintro ⟨⟨⟨⟨⟨g1, g2⟩, g3⟩, g4⟩, g5⟩, _⟩
      grind), fun g1 g2 g3 g4 => ⟨fun h => hbad (by
      rintro ⟨⟨⟨⟨⟨_, _⟩, _⟩, _⟩, g5⟩, _⟩
      rw [h] at g5
      cases g5), fun g5 => ⟨hj, ?_⟩⟩⟩
    have hmin : min j l.length = j := Nat.min_eq_left hj
    replace hbad : (∃ i, i < j ∧ sameD (l.getD i db0) ⟨a, b, q⟩) → r = false := fun ⟨i, hi, hc⟩ => hbad fun hh => hh.2 i hi hc
    replace hsucc : (∀ i, i < j → ¬ sameD (l.getD i db0) ⟨a, b, q⟩) → okDoubts ⟨its, lks, l, ov⟩ (j + 1) := fun h => hsucc.2 ⟨hinv, ⟨⟨⟨⟨g1, g2⟩, g3⟩, g4⟩, g5⟩, h⟩
    refine k_loop (ι := {m : Nat // m ≤ j ∧ ∀ i, i < m → ¬ sameD (l.getD i db0) ⟨a, b, q⟩}) (fun x => ⟨mkTm 79 0 [(1, .own 1 0), (4, .ad 3 [[.int .i64 a, .int .i64 b, .int .i64 q]] 0 0), (10, .fz 3 (l.map dbC)), (11, .int .i64 l.length), (12, .int .i64 j), (46, .fz 3 ((l.map dbC).take j)), (47, .int .i64 j), (48, .int .i64 x.1)], [(1, .box [.fz 3 (its.map itC), .fz 6 (lks.map lkC), .fz 3 (l.map dbC), .fz 2 (ov.map txC)])]⟩)
      (fun x => j - x.1) [] ⟨0, by omega, fun i hi => by omega⟩ (by simp (implicitDefEqProofs := false) [hmin]) ?_
    rintro ⟨m, hm, hinv2⟩ Q hR
    by_cases hmj : m < j
    · have hml : m < l.length := by omega
      have hmj' : (m : Int) < j := by omega
      have hel2 : elem (List.take j (List.map dbC l)) m = dbC l[m] := by
        rw [← List.map_take, elem_map dbC (l.take j) m (by simp; omega)]
        simp
      have hlen2 : (List.take j (List.map dbC l)).length = j := by simp; omega
      have hgd2 : l.getD m db0 = l[m] := by simp [List.getD, hml]
      have hb2 : sameD l[m] ⟨a, b, q⟩ → r = false := fun h => hbad ⟨m, hmj, by rw [hgd2]; exact h⟩
      have hs2 : ¬ sameD l[m] ⟨a, b, q⟩ → ∀ i, i < m + 1 → ¬ sameD (l.getD i db0) ⟨a, b, q⟩ := fun h i hi => by
        by_cases e : i = m
        · subst e; rw [hgd2]; exact h
        · exact hinv2 i (by omega)
      generalize l[m] = y at hel2 hb2 hs2
      obtain ⟨a', b', q'⟩ := y
      simp only [dbC] at hel2
      simp only [sameD] at hb2 hs2
      simp (implicitDefEqProofs := false) [ir_store_doubts_b0, hmj', hmj, hlen2, hel2]
      refine ⟨fun p1 p2 => hb2 ⟨p1, p2⟩, fun p => ⟨by simp only [inR]; omega, hR _ [] ⟨m + 1, by omega, hs2 fun ⟨p1, p2⟩ => p p1 p2⟩ (by simp (implicitDefEqProofs := false)) (by simp only; omega)⟩⟩
    · have hmj2 : m = j := by omega
      subst hmj2
      simp (implicitDefEqProofs := false) [ir_store_doubts_b0, ir_store_doubts_r1]
      exact ⟨by simp only [inR]; omega, hQ _ [] ⟨m + 1, by omega, hsucc hinv2⟩ (by simp (implicitDefEqProofs := false)) (by simp only; omega)⟩
  · have hjl' : j = l.length := by omega
    subst hjl'
    simp (implicitDefEqProofs := false) [ir_store_doubts_b2, ir_store_doubts_r5]
    refine k_loop (ι := {m : Nat // m ≤ ov.length ∧ okOver ov m}) (fun x => ⟨mkTm 79 0 [(1, .own 1 0), (60, .fz 2 (ov.map txC)), (61, .int .i64 ov.length), (62, .int .i64 x.1)], [(1, .box [.fz 3 (its.map itC), .fz 6 (lks.map lkC), .fz 3 (l.map dbC), .fz 2 (ov.map txC)])]⟩)
      (fun x => ov.length - x.1) [] ⟨0, by omega, fun i hi => by omega⟩ (by simp (implicitDefEqProofs := false)) ?_
    rintro ⟨m, hm, hinv2⟩ Q hR
    by_cases hmj : m < ov.length
    · have hmj' : (m : Int) < ov.length := by omega
      have hel2 := elem_map txC ov m hmj
      have hgd2 : ov.getD m tx0 = ov[m] := by simp [List.getD, hmj]
      have hs2 := okOver_succ (l := ov) (j := m)
      have hb2 : ¬ (okTx (ov.getD m tx0).1 (ov.getD m tx0).2 = true ∧ ((ov.take m).any fun u => isTx u.1 u.2 (ov.getD m tx0)) = false) → r = false := fun hb => ef2 fun hall => hb (hall m hmj)
      rw [hgd2] at hs2 hb2
      generalize ov[m] = y at hel2 hb2 hs2
      obtain ⟨a, b⟩ := y
      have hF1' := hF1 a b
      have hP1' := hP1 a b
      have hF2' := contT_F (ov.take m) (a, b)
      have hP2' := contT_pre (l := ov.take m) (a, b) (by simp; omega)
      rw [List.map_take] at hF2' hP2'
      simp only [txC] at hel2 hF2' hP2'
      generalize ((ov.take m).any fun u => isTx u.1 u.2 (a, b)) = o2 at hs2 hb2 hF2'
      simp only at hs2 hb2
      generalize okTx a b = o1 at hs2 hb2 hF1'
      clear hF1 hP1 hF2 hP2 hF3 hP3
      have hmin : min m ov.length = m := Nat.min_eq_left hm
      simp (implicitDefEqProofs := false) [ir_store_doubts_b3, hmj', hmj, hel2, h1, h2, hx1, hx2, hF1', hP1', hF2', hP2', hmin]
      exact ⟨fun h => ⟨h, hm⟩, fun h => hb2 (by rintro ⟨p1, p2⟩; grind), fun g1 g2 => ⟨by simp only [inR]; omega, hR _ [] ⟨m + 1, by omega, hs2.2 ⟨hinv2, g1, g2⟩⟩ (by simp (implicitDefEqProofs := false)) (by simp only; omega)⟩⟩
    · have hmj2 : m = ov.length := by omega
      subst hmj2
      simp (implicitDefEqProofs := false) [ir_store_doubts_b3, ir_store_doubts_r4]
      exact et hinv hinv2

theorem its_F (l : List It) : sp_items.F [.fz 3 (l.map itC)] = .bool (okItemsB l) := by simp only [sp_items, its_of]
theorem its_pre {l : List It} (h : l.length ≤ 100000) : sp_items.pre [.fz 3 (l.map itC)] = True := by
  simp only [sp_items, eq_iff_iff, iff_true]; exact ⟨l, rfl, h⟩
theorem dbs_F (s : Sto) : sp_doubts.F [.agg (stoC s)] = .bool (okDoubtsB s) := by
  have e : D.agg (stoC s) = stoD s := rfl
  simp only [sp_doubts, e, stoOf_stoD]
theorem dbs_pre {s : Sto} (h : fewS s) : sp_doubts.pre [.agg (stoC s)] = True := by
  simp only [sp_doubts, eq_iff_iff, iff_true]; exact ⟨s, rfl, h⟩
theorem lks_F (s : Sto) : sp_locks.F [.agg (stoC s)] = .bool (okLocksB s) := by
  have e : D.agg (stoC s) = stoD s := rfl
  simp only [sp_locks, e, stoOf_stoD]
theorem lks_pre {s : Sto} (h : fewS s) : sp_locks.pre [.agg (stoC s)] = True := by
  simp only [sp_locks, eq_iff_iff, iff_true]; exact ⟨s, rfl, h⟩
theorem chk_F (s : Sto) : sp_SCheck.F [.agg (stoC s)] = .int .i64 (if okS s = true then 0 else 9) := by
  have e : D.agg (stoC s) = stoD s := rfl
  simp only [sp_SCheck, e, stoOf_stoD]
theorem chk_pre {s : Sto} (h : fewS s) : sp_SCheck.pre [.agg (stoC s)] = True := by
  simp only [sp_SCheck, eq_iff_iff, iff_true]; exact ⟨s, rfl, h⟩
theorem call_F (s : Sto) (t : Tx) (k : Int) : sp_call.F [.agg (stoC s), .agg (txC t), .int .i64 k] = .int .i64 (callE s t k) := by
  have e : D.agg (stoC s) = stoD s := rfl
  simp only [sp_call, e, stoOf_stoD, txOf_txC]
theorem call_pre {s : Sto} (h : fewS s) (t : Tx) (k : Int) : sp_call.pre [.agg (stoC s), .agg (txC t), .int .i64 k] = True := by
  simp only [sp_call, eq_iff_iff, iff_true]; exact ⟨s, t, k, rfl, h⟩
theorem stx_F (t : Tx) : sp_stxn.F [.agg (txC t)] = .bool (okTx t.1 t.2) := rfl
theorem stx_pre (t : Tx) : sp_stxn.pre [.agg (txC t)] = True := by
  simp only [sp_stxn, eq_iff_iff, iff_true]; exact ⟨t, rfl⟩

set_option maxRecDepth 100000 in
set_option maxHeartbeats 4000000 in
theorem v_SCheck (h1 : T.sp n_store_items = some sp_items) (h2 : T.sp n_store_doubts = some sp_doubts) (h3 : T.sp n_store_locks = some sp_locks) : Verified T ir_store_Check sp_SCheck := by
  refine Verified.mk ?_
  rintro ds ⟨s, rfl, hf⟩
  have e : stoD s = .agg (stoC s) := rfl
  rw [e, chk_F]
  have hx1 : sp_items.hx = none := rfl
  have hx2 : sp_doubts.hx = none := rfl
  have hx3 : sp_locks.hx = none := rfl
  have f1 := its_F s.items
  have p1 := its_pre hf.1
  have f2 := dbs_F s
  have p2 := dbs_pre hf
  have f3 := lks_F s
  have p3 := lks_pre hf
  have hk : okS s = (okItemsB s.items && okDoubtsB s && okLocksB s) := rfl
  rw [hk]
  generalize okItemsB s.items = a at f1
  generalize okDoubtsB s = b at f2
  generalize okLocksB s = c at f3
  obtain ⟨s1, s2, s3, s4⟩ := s
  simp only [stoC] at f1 p1 f2 p2 f3 p3 ⊢
  cases a <;> cases b <;> cases c <;> simp (implicitDefEqProofs := false) [ir_store_Check, h1, h2, h3, hx1, hx2, hx3, f1, p1, f2, p2, f3, p3]

set_option maxRecDepth 100000 in
set_option maxHeartbeats 4000000 in
theorem v_call (h1 : T.sp n_store_Check = some sp_SCheck) (h2 : T.sp n_store_txn = some sp_stxn) : Verified T ir_store_call sp_call := by
  refine Verified.mk ?_
  rintro ds ⟨s, t, k, rfl, hf⟩
  have e : stoD s = .agg (stoC s) := rfl
  rw [e, call_F]
  have hx1 : sp_SCheck.hx = none := rfl
  have hx2 : sp_stxn.hx = none := rfl
  have f1 := chk_F s
  have p1 := chk_pre hf
  have f2 := stx_F t
  have p2 := stx_pre t
  simp only [callE]
  generalize okS s = a at f1
  generalize okTx t.1 t.2 = b at f2
  obtain ⟨s1, s2, s3, s4⟩ := s
  obtain ⟨t1, t2⟩ := t
  simp only [stoC, txC] at f1 p1 f2 p2 ⊢
  cases a
  · simp only [Bool.false_eq_true, if_false] at f1 ⊢
    simp (implicitDefEqProofs := false) [ir_store_call, h1, h2, hx1, hx2, f1, p1, f2, p2]
  · simp only [if_true] at f1 ⊢
    by_cases hc : b = true ∧ 0 ≤ k ∧ k < 8
    · obtain ⟨rfl, c1, c2⟩ := hc
      simp (implicitDefEqProofs := false) [ir_store_call, h1, h2, hx1, hx2, f1, p1, f2, p2, c1, c2]
    · rw [if_neg hc]
      simp (implicitDefEqProofs := false) [ir_store_call, h1, h2, hx1, hx2, f1, p1, f2, p2]
      grind
end
end Go.Proofs.YtghehknnaifoeaaDoor
