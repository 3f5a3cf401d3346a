/-
  Stores: transactions, locks, clones and items compute what the plain functions beside them say. Conditions: those of each specification's 'pre', and that the functions that are called are what theirs say.
-/
import Derived.Test.YtghehknnaifoeaaDoorSt1
set_option linter.unusedVariables false
set_option linter.unusedSimpArgs false
namespace Go.Proofs.YtghehknnaifoeaaDoor
open Go Go.Vcg

def okTx (a b : Int) : Bool := decide (0 ≤ a) && decide (a < 4) && decide (1 ≤ b) && decide (b ≤ 1048576)
def sp_stxn : Sp := { pre := fun ds => ∃ t : Tx, ds = [.agg (txC t)], F := fun | [.agg t] => .bool (okTx (txOf t).1 (txOf t).2) | _ => .any }
def doubtedB (s : Sto) (t : Tx) : Bool := s.doubts.any fun x => isTx x.site x.n t
noncomputable def sp_doubted : Sp := { pre := fun ds => ∃ (s : Sto) (t : Tx), ds = [stoD s, .agg (txC t)] ∧ fewS s, F := fun | [s, .agg t] => .bool (doubtedB (stoOf s) (txOf t)) | _ => .any }
def lockI (s : Sto) (t : Tx) (k : Int) : Int := idxOf (fun x => isTx x.site x.n t && decide (x.key = k)) s.locks
noncomputable def sp_lock : Sp := { pre := fun ds => ∃ (s : Sto) (t : Tx) (k : Int), ds = [stoD s, .agg (txC t), .int .i64 k] ∧ fewS s, F := fun | [s, .agg t, .int _ k] => .int .i64 (lockI (stoOf s) (txOf t) k) | _ => .any }
def busyB (s : Sto) (t : Tx) (k : Int) (all : Bool) : Bool := s.locks.any fun x => decide (x.key = k) && !isTx x.site x.n t && (all || x.wr)
noncomputable def sp_busy : Sp := { pre := fun ds => ∃ (s : Sto) (t : Tx) (k : Int) (a : Bool), ds = [stoD s, .agg (txC t), .int .i64 k, .bool a] ∧ fewS s, F := fun | [s, .agg t, .int _ k, .bool a] => .bool (busyB (stoOf s) (txOf t) k a) | _ => .any }
theorem txOf_txC (t : Tx) : txOf (txC t) = t := rfl

/-! ### Clones -/
def hs_Clone (sz : Nat) : HSp := {
  pre := fun ds ob => ∃ es, ds = [.fz sz es] ∧ ob = [] ∧ es.length ≤ 100000
  F := fun ds _ => match ds with
    | [.fz _ es] => (.row 0, [(0, .row sz es)])
    | _ => (.any, []) }
def sp_Clone (sz : Nat) : Sp := { pre := fun _ => True, F := fun _ => .any, hx := some (hs_Clone sz) }
theorem Clone_pre {sz : Nat} {es : List (List D)} (h : es.length ≤ 100000) : (hs_Clone sz).pre [.fz sz es] [] = True := by
  simp only [hs_Clone, eq_iff_iff, iff_true]; exact ⟨es, rfl, trivial, h⟩
theorem Clone_F (sz : Nat) (es : List (List D)) : (hs_Clone sz).F [.fz sz es] [] = (.row 0, [(0, .row sz es)]) := rfl
def hs_own : HSp := {
  pre := fun ds ob => ∃ s : Sto, ds = [stoD s] ∧ ob = [] ∧ fewS s
  F := fun ds _ => match ds with
    | [.agg [.fz _ a, .fz _ b, .fz _ c, .fz _ d]] => (.agg [.row 0, .row 1, .row 2, .row 3], [(0, .row 3 a), (1, .row 6 b), (2, .row 3 c), (3, .row 2 d)])
    | _ => (.any, []) }
def sp_own : Sp := { pre := fun _ => True, F := fun _ => .any, hx := some hs_own }
theorem own_pre {s : Sto} (h : fewS s) : hs_own.pre [.agg [.fz 3 (s.items.map itC), .fz 6 (s.locks.map lkC), .fz 3 (s.doubts.map dbC), .fz 2 (s.over.map txC)]] [] = True := by
  simp only [hs_own, eq_iff_iff, iff_true]; exact ⟨s, rfl, trivial, h⟩
theorem own_F (a b c d : List (List D)) : hs_own.F [.agg [.fz 3 a, .fz 6 b, .fz 3 c, .fz 2 d]] [] = (.agg [.row 0, .row 1, .row 2, .row 3], [(0, .row 3 a), (1, .row 6 b), (2, .row 3 c), (3, .row 2 d)]) := rfl

/-! ### Items -/
def it0 : It := ⟨0, 0, 0⟩
def okIt (x : It) : Bool := decide (0 ≤ x.key) && decide (x.key < 8) && decide (0 ≤ x.value) && decide (x.value ≤ 1073741824) && decide (1 ≤ x.version) && decide (x.version ≤ 1048576)
def okItems (l : List It) (j : Nat) : Prop := ∀ i, i < j → okIt (l.getD i it0) = true ∧ (0 < i → (l.getD (i - 1) it0).key < (l.getD i it0).key)
open Classical in
noncomputable def okItemsB (l : List It) : Bool := decide (okItems l l.length)
theorem okItemsB_iff {l : List It} : okItemsB l = true ↔ okItems l l.length := by simp [okItemsB]
noncomputable def sp_items : Sp := { pre := fun ds => ∃ l : List It, ds = [.fz 3 (l.map itC)] ∧ l.length ≤ 100000, F := fun | [x] => .bool (okItemsB (lsOf itOf x)) | _ => .any }
theorem okItems_succ {l : List It} {j : Nat} : okItems l (j + 1) ↔ okItems l j ∧ okIt (l.getD j it0) = true ∧ (0 < j → (l.getD (j - 1) it0).key < (l.getD j it0).key) := by
  constructor
  · intro h
    exact ⟨fun i hi => h i (by omega), h j (by omega)⟩
  · rintro ⟨h1, h2⟩ i hi
    by_cases e : i = j
    · subst e; exact h2
    · exact h1 i (by omega)

section
variable {T : Tb}
attribute [local simp] k_seq k_block k_skip k_reg k_alt k_cond k_exit k_ret kf_nil kf_seq_n kf_seq_e kf_seq_r kf_blk_n kf_blk_e kf_blk_r kf_lp_n kf_lp_e kf_lp_r kf_cut_n kf_cut_e kf_cut_r mkTm VCops VCalt istep act gd applyE wrapD Opd.ev get_mk set_mk set_mk0 tget16 tset16 tget_0 tset_0 tget_1 tset_1 tget_2 tset_2 tget_3 tset_3 tget_4 tset_4 tget_5 tset_5 tget_6 tset_6 tget_7 tset_7 tget_8 tset_8 tget_9 tset_9 tget_10 tset_10 tget_11 tset_11 tget_12 tset_12 tget_13 tset_13 tget_14 tset_14 tget_15 tset_15 D.un D.gu gus IOp.opds binD fnPost getRes IRes.get oneRes D.out outL D.clos closL D.norow norowL D.lv lvL D.scal scalL D.cells D.cell D.cell' St.lk obPut obDel List.lookup cut pickD splice fillParts fillRows elem_cons newsOf D.pl D.forget forgetL Ob.forget forgetO eqCells sg leD leDL leOb apartK St.le D.keys keysL D.rows rowsL obKeys addKeys reach pos D.ren renL Ob.ren inM outM inObs outObs goneK apartN okNames_eq okNms obNms namesOK_nil namesOK_cons freeOK_nil freeOK_cons D.frz frzL Ob.frz frzO St.frz forgetLs dropObs putObs hcall freeOf keeps baseN shD isShift shMax k_bad VCopsG frz_nil actx actc cnum vwCut St.frzT St.opnT St.clsT D.opn opnL Ob.opn opnO VCou VCcx St.oneS D.objI D.objK scrL D.scr St.opnS St.clsS D.cellS D.fzs fzsL k_mrk k_mrq IOper.gh
theorem v_stxn : Verified T ir_store_txn sp_stxn := by
  refine Verified.mk ?_
  rintro ds ⟨⟨a, b⟩, rfl⟩
  simp only [sp_stxn, txOf_txC]
  simp (implicitDefEqProofs := false) [ir_store_txn, txC, okTx]
  try grind
theorem v_doubted (h1 : T.sp n_slices_ContainsFunc_reredos_api_Doubt_reredos_api_Doubt = some sp_ContD) : Verified T ir_store_doubted sp_doubted := by
  refine Verified.mk ?_
  rintro ds ⟨⟨a, b, c, d⟩, ⟨t1, t2⟩, rfl, ⟨f1, f2, f3, f4⟩⟩
  simp only at f1 f2 f3 f4
  have hx : sp_ContD.hx = none := rfl
  have hc := CloD.doubted (t1, t2)
  have hF := contD_F (l := c) hc
  have hP := contD_pre hc f3
  simp only [txC, n_store_doubted_1] at hF hP
  simp only [sp_doubted, stoOf_stoD, txOf_txC, doubtedB]
  simp (implicitDefEqProofs := false) [ir_store_doubted, stoD, stoC, txC, h1, hx, hF, hP]
theorem v_lock (h1 : T.sp n_slices_IndexFunc_reredos_api_Lock_reredos_api_Lock = some sp_IndexL) : Verified T ir_store_lock sp_lock := by
  refine Verified.mk ?_
  rintro ds ⟨⟨a, b, c, d⟩, ⟨t1, t2⟩, k, rfl, ⟨f1, f2, f3, f4⟩⟩
  simp only at f1 f2 f3 f4
  have hx : sp_IndexL.hx = none := rfl
  have hc := CloL.lock (t1, t2) k
  have hF := indexL_F (l := b) hc
  have hP := indexL_pre hc f2
  simp only [txC, n_store_lock_1] at hF hP
  simp only [sp_lock, stoOf_stoD, txOf_txC, lockI]
  simp (implicitDefEqProofs := false) [ir_store_lock, stoD, stoC, txC, h1, hx, hF, hP]
theorem v_busy (h1 : T.sp n_slices_ContainsFunc_reredos_api_Lock_reredos_api_Lock = some sp_ContL) : Verified T ir_store_busy sp_busy := by
  refine Verified.mk ?_
  rintro ds ⟨⟨a, b, c, d⟩, ⟨t1, t2⟩, k, al, rfl, ⟨f1, f2, f3, f4⟩⟩
  simp only at f1 f2 f3 f4
  have hx : sp_ContL.hx = none := rfl
  have hc := CloL.busy (t1, t2) k al
  have hF := contL_F (l := b) hc
  have hP := contL_pre hc f2
  simp only [txC, n_store_busy_1] at hF hP
  simp only [sp_busy, stoOf_stoD, txOf_txC, busyB]
  simp (implicitDefEqProofs := false) [ir_store_busy, stoD, stoC, txC, h1, hx, hF, hP]

theorem v_CloneI : Verified T ir_slices_Clone_reredos_api_Item_reredos_api_Item (sp_Clone 3) := by
  refine Verified.mkx rfl ?_
  rintro ds ob ⟨es, rfl, rfl, h⟩ R hR
  rw [Clone_F] at hR
  cases es with
  | nil =>
    simp (implicitDefEqProofs := false) [ir_slices_Clone_reredos_api_Item_reredos_api_Item]
    exact ⟨hR _ [(0, none)] (by simp (implicitDefEqProofs := false)), hR _ [(0, some 7)] (by simp (implicitDefEqProofs := false))⟩
  | cons e es =>
    simp only [List.length_cons] at h
    simp (implicitDefEqProofs := false) [ir_slices_Clone_reredos_api_Item_reredos_api_Item]
    exact ⟨⟨by omega, by omega⟩, hR _ [(0, some 7)] (by simp (implicitDefEqProofs := false))⟩
theorem v_CloneL : Verified T ir_slices_Clone_reredos_api_Lock_reredos_api_Lock (sp_Clone 6) := by
  refine Verified.mkx rfl ?_
  rintro ds ob ⟨es, rfl, rfl, h⟩ R hR
  rw [Clone_F] at hR
  cases es with
  | nil =>
    simp (implicitDefEqProofs := false) [ir_slices_Clone_reredos_api_Lock_reredos_api_Lock]
    exact ⟨hR _ [(0, none)] (by simp (implicitDefEqProofs := false)), hR _ [(0, some 7)] (by simp (implicitDefEqProofs := false))⟩
  | cons e es =>
    simp only [List.length_cons] at h
    simp (implicitDefEqProofs := false) [ir_slices_Clone_reredos_api_Lock_reredos_api_Lock]
    exact ⟨⟨by omega, by omega⟩, hR _ [(0, some 7)] (by simp (implicitDefEqProofs := false))⟩
theorem v_CloneD : Verified T ir_slices_Clone_reredos_api_Doubt_reredos_api_Doubt (sp_Clone 3) := by
  refine Verified.mkx rfl ?_
  rintro ds ob ⟨es, rfl, rfl, h⟩ R hR
  rw [Clone_F] at hR
  cases es with
  | nil =>
    simp (implicitDefEqProofs := false) [ir_slices_Clone_reredos_api_Doubt_reredos_api_Doubt]
    exact ⟨hR _ [(0, none)] (by simp (implicitDefEqProofs := false)), hR _ [(0, some 7)] (by simp (implicitDefEqProofs := false))⟩
  | cons e es =>
    simp only [List.length_cons] at h
    simp (implicitDefEqProofs := false) [ir_slices_Clone_reredos_api_Doubt_reredos_api_Doubt]
    exact ⟨⟨by omega, by omega⟩, hR _ [(0, some 7)] (by simp (implicitDefEqProofs := false))⟩
theorem v_CloneT : Verified T ir_slices_Clone_reredos_api_Txn_reredos_api_Txn (sp_Clone 2) := by
  refine Verified.mkx rfl ?_
  rintro ds ob ⟨es, rfl, rfl, h⟩ R hR
  rw [Clone_F] at hR
  cases es with
  | nil =>
    simp (implicitDefEqProofs := false) [ir_slices_Clone_reredos_api_Txn_reredos_api_Txn]
    exact ⟨hR _ [(0, none)] (by simp (implicitDefEqProofs := false)), hR _ [(0, some 7)] (by simp (implicitDefEqProofs := false))⟩
  | cons e es =>
    simp only [List.length_cons] at h
    simp (implicitDefEqProofs := false) [ir_slices_Clone_reredos_api_Txn_reredos_api_Txn]
    exact ⟨⟨by omega, by omega⟩, hR _ [(0, some 7)] (by simp (implicitDefEqProofs := false))⟩
set_option maxRecDepth 100000 in
set_option maxHeartbeats 4000000 in
theorem v_own (h1 : T.sp n_slices_Clone_reredos_api_Item_reredos_api_Item = some (sp_Clone 3)) (h2 : T.sp n_slices_Clone_reredos_api_Lock_reredos_api_Lock = some (sp_Clone 6)) (h3 : T.sp n_slices_Clone_reredos_api_Doubt_reredos_api_Doubt = some (sp_Clone 3)) (h4 : T.sp n_slices_Clone_reredos_api_Txn_reredos_api_Txn = some (sp_Clone 2)) : Verified T ir_store_own sp_own := by
  refine Verified.mkx rfl ?_
  rintro ds ob ⟨⟨a, b, c, d⟩, rfl, rfl, ⟨f1, f2, f3, f4⟩⟩ R hR
  simp only at f1 f2 f3 f4
  simp only [stoD, stoC, own_F] at hR
  have p1 := Clone_pre (sz := 3) (es := a.map itC) (by simpa using f1)
  have p2 := Clone_pre (sz := 6) (es := b.map lkC) (by simpa using f2)
  have p3 := Clone_pre (sz := 3) (es := c.map dbC) (by simpa using f3)
  have p4 := Clone_pre (sz := 2) (es := d.map txC) (by simpa using f4)
  have x1 : ∀ k, (sp_Clone k).hx = some (hs_Clone k) := fun _ => rfl
  simp (implicitDefEqProofs := false) [ir_store_own, stoD, stoC, h1, h2, h3, h4, x1, p1, p2, p3, p4, Clone_F]
  exact hR _ [(0, some 60000), (1, some 90000), (2, some 120000), (3, some 150000)] (by simp (implicitDefEqProofs := false))

set_option maxRecDepth 100000 in
set_option maxHeartbeats 4000000 in
theorem v_items : Verified T ir_store_items sp_items := by
  refine Verified.mk ?_
  rintro ds ⟨l, rfl, hl⟩
  simp only [sp_items, its_of]
  have et : okItems l l.length → okItemsB l = true := okItemsB_iff.2
  have ef : ¬ okItems l l.length → okItemsB l = false := fun h => by
    cases hb : okItemsB l
    · rfl
    · exact absurd (okItemsB_iff.1 hb) h
  generalize okItemsB l = r at et ef
  simp (implicitDefEqProofs := false) [ir_store_items]
  refine k_loop (ι := {j : Nat // j ≤ l.length ∧ okItems l j}) (fun x => ⟨mkTm 54 0 [(0, .fz 3 (l.map itC)), (5, .fz 3 (l.map itC)), (6, .int .i64 l.length), (7, .int .i64 x.1)], []⟩)
    (fun x => l.length - x.1) [] ⟨0, by omega, fun i hi => by omega⟩ (by simp (implicitDefEqProofs := false)) ?_
  rintro ⟨j, hj, hinv⟩ P hP
  by_cases hjl : j < l.length
  · have hjl' : (j : Int) < l.length := by omega
    have hel := elem_map itC l j hjl
    have hgd : l.getD j it0 = l[j] := by simp [List.getD, hjl]
    have hsucc := okItems_succ (l := l) (j := j)
    have hbad : ¬ (okIt (l.getD j it0) = true ∧ (0 < j → (l.getD (j - 1) it0).key < (l.getD j it0).key)) → r = false := fun hb => ef fun hall => hb (hall j hjl)
    rw [hgd] at hsucc hbad
    generalize l[j] = x at hel hsucc hbad
    obtain ⟨k, v, w⟩ := x
    simp only [itC, okIt, Bool.and_eq_true, decide_eq_true_eq] at hel hsucc hbad
    cases j with
    | zero =>
      simp (implicitDefEqProofs := false) [ir_store_items_b0, hjl, hel]
      refine ⟨fun h => hbad (by omega), fun h1 h2 h3 h4 h5 h6 => ⟨by simp only [inR]; omega, hP _ [] ⟨1, by omega, hsucc.2 ⟨hinv, by omega, fun h => by omega⟩⟩ (by simp (implicitDefEqProofs := false)) (by simp only; omega)⟩⟩
    | succ j =>
      have hlt3 : j < l.length := by omega
      have hel3 := elem_map itC l j hlt3
      have hgd3 : l.getD (j + 1 - 1) it0 = l[j] := by simp [List.getD, hlt3]
      rw [hgd3] at hsucc hbad
      generalize l[j] = y at hel3 hsucc hbad
      obtain ⟨k', v', w'⟩ := y
      simp only [itC] at hel3 hsucc hbad
      have hj1 : ((j : Int) + 1 - 1) = j := by omega
      have hjs : (j : Int) + 1 < l.length := by omega
      simp (implicitDefEqProofs := false) [ir_store_items_b0, hjl, hjs, hel, hel3, hlt3, hj1]
      refine ⟨by omega, fun h => hbad (by omega), fun h1 h2 h3 h4 h5 h6 => ⟨by simp only [inR]; omega, fun h => hbad (by omega), fun h7 => ⟨by simp only [inR]; omega, hP _ [] ⟨j + 1 + 1, by omega, hsucc.2 ⟨hinv, by omega, fun _ => h7⟩⟩ (by simp (implicitDefEqProofs := false)) (by simp only; omega)⟩⟩⟩
  · have hjl' : j = l.length := by omega
    subst hjl'
    simp (implicitDefEqProofs := false) [ir_store_items_b0, ir_store_items_r1, et hinv]
end
end Go.Proofs.YtghehknnaifoeaaDoor
