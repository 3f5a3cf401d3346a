/-
  Stores: their data; what looks through slices with a function computes what the plain functions beside it say. Conditions: those of each specification's 'pre', and that the functions that are called are what theirs say.
-/
import Derived.Test.YtghehknnaifoeaaDoorSt0
set_option linter.unusedVariables false
set_option linter.unusedSimpArgs false
namespace Go.Proofs.YtghehknnaifoeaaDoor
open Go Go.Vcg

/-! ### Data -/
structure It where
  (key value version : Int)
  deriving DecidableEq
structure Lk where
  (site n key : Int) (wr : Bool) (value ask : Int)
  deriving DecidableEq
structure Db where
  (site n age : Int)
  deriving DecidableEq
abbrev Tx := Int × Int
def itC (x : It) : List D := [.int .i64 x.key, .int .i64 x.value, .int .i64 x.version]
def lkC (x : Lk) : List D := [.int .i64 x.site, .int .i64 x.n, .int .i64 x.key, .bool x.wr, .int .i64 x.value, .int .i64 x.ask]
def dbC (x : Db) : List D := [.int .i64 x.site, .int .i64 x.n, .int .i64 x.age]
def txC (t : Tx) : List D := [.int .i64 t.1, .int .i64 t.2]
def itOf : List D → It
  | [.int _ a, .int _ b, .int _ c] => ⟨a, b, c⟩
  | _ => ⟨0, 0, 0⟩
def lkOf : List D → Lk
  | [.int _ a, .int _ b, .int _ c, .bool w, .int _ d, .int _ e] => ⟨a, b, c, w, d, e⟩
  | _ => ⟨0, 0, 0, false, 0, 0⟩
def dbOf : List D → Db
  | [.int _ a, .int _ b, .int _ c] => ⟨a, b, c⟩
  | _ => ⟨0, 0, 0⟩
def txOf : List D → Tx
  | [.int _ a, .int _ b] => (a, b)
  | _ => (0, 0)
def lsOf {α : Type} (f : List D → α) : D → List α
  | .fz _ es => es.map f
  | _ => []
theorem lsOf_map {α : Type} {f : List D → α} {g : α → List D} (h : ∀ x, f (g x) = x) (k : Nat) (l : List α) : lsOf f (.fz k (l.map g)) = l := by
  simp only [lsOf, List.map_map]
  have : f ∘ g = id := funext h
  rw [this, List.map_id]
theorem its_of (l : List It) : lsOf itOf (.fz 3 (l.map itC)) = l := lsOf_map (fun _ => rfl) 3 l
theorem lks_of (l : List Lk) : lsOf lkOf (.fz 6 (l.map lkC)) = l := lsOf_map (fun _ => rfl) 6 l
theorem dbs_of (l : List Db) : lsOf dbOf (.fz 3 (l.map dbC)) = l := lsOf_map (fun _ => rfl) 3 l
theorem txs_of (l : List Tx) : lsOf txOf (.fz 2 (l.map txC)) = l := lsOf_map (fun _ => rfl) 2 l
structure Sto where
  (items : List It) (locks : List Lk) (doubts : List Db) (over : List Tx)
def stoC (s : Sto) : List D := [.fz 3 (s.items.map itC), .fz 6 (s.locks.map lkC), .fz 3 (s.doubts.map dbC), .fz 2 (s.over.map txC)]
def stoD (s : Sto) : D := .agg (stoC s)
def stoOf : D → Sto
  | .agg [a, b, c, d] => ⟨lsOf itOf a, lsOf lkOf b, lsOf dbOf c, lsOf txOf d⟩
  | _ => ⟨[], [], [], []⟩
theorem stoOf_stoD (s : Sto) : stoOf (stoD s) = s := by
  obtain ⟨a, b, c, d⟩ := s
  simp only [stoOf, stoD, stoC, its_of, lks_of, dbs_of, txs_of]
/-- There are not too many of anything. -/
def fewS (s : Sto) : Prop := s.items.length ≤ 100000 ∧ s.locks.length ≤ 100000 ∧ s.doubts.length ≤ 100000 ∧ s.over.length ≤ 100000

/-! ### The first one of which something holds -/
def idxOf {α : Type} (g : α → Bool) (l : List α) : Int := if l.any g = true then (l.findIdx g : Nat) else -1
theorem idxOf_found {α : Type} {g : α → Bool} {l : List α} {j : Nat} (h : j < l.length) (hj : g l[j] = true) (hb : ∀ i (hi : i < j), g (l[i]'(by omega)) = false) : idxOf g l = j := by
  have ha : l.any g = true := List.any_eq_true.2 ⟨_, List.getElem_mem h, hj⟩
  have : l.findIdx g = j := by
    refine (List.findIdx_eq h).2 ⟨hj, fun i hi => ?_⟩
    exact hb i hi
  rw [idxOf, if_pos ha, this]
theorem idxOf_none {α : Type} {g : α → Bool} {l : List α} (hb : ∀ i (hi : i < l.length), g l[i] = false) : idxOf g l = -1 := by
  rw [idxOf, if_neg]
  intro h
  obtain ⟨x, hx, hg⟩ := List.any_eq_true.1 h
  obtain ⟨i, hi, rfl⟩ := List.getElem_of_mem hx
  rw [hb i hi] at hg
  cases hg
theorem idxOf_ge {α : Type} (g : α → Bool) (l : List α) : (decide (idxOf g l ≥ 0)) = l.any g := by
  unfold idxOf
  cases h : l.any g
  · simp
  · simp
theorem idxOf_bounds {α : Type} (g : α → Bool) (l : List α) : -1 ≤ idxOf g l ∧ idxOf g l < l.length := by
  unfold idxOf
  split
  · rename_i h
    obtain ⟨x, hx, hg⟩ := List.any_eq_true.1 h
    have := List.findIdx_lt_length_of_exists ⟨x, hx, hg⟩
    omega
  · omega

/-! ### Functions that are called as values -/
def isTx (a b : Int) (t : Tx) : Bool := decide (a = t.1 ∧ b = t.2)
/-- What is held of locks. -/
inductive CloL : Nat → List D → (Lk → Bool) → Prop
  | lock (t : Tx) (k : Int) : CloL n_store_lock_1 [.ad 2 [txC t] 0 0, .ad 1 [[.int .i64 k]] 0 0] (fun x => isTx x.site x.n t && decide (x.key = k))
  | busy (t : Tx) (k : Int) (all : Bool) : CloL n_store_busy_1 [.ad 1 [[.int .i64 k]] 0 0, .ad 2 [txC t] 0 0, .ad 1 [[.bool all]] 0 0] (fun x => decide (x.key = k) && !isTx x.site x.n t && (all || x.wr))
  | doubts (d : Db) : CloL n_store_doubts_1 [.ad 3 [dbC d] 0 0] (fun x => isTx x.site x.n (d.site, d.n))
  | over (t : Tx) : CloL n_store_End_1 [.ad 2 [txC t] 0 0] (fun x => isTx x.site x.n t)
inductive CloD : Nat → List D → (Db → Bool) → Prop
  | doubted (t : Tx) : CloD n_store_doubted_1 [.ad 2 [txC t] 0 0] (fun x => isTx x.site x.n t)
  | over (t : Tx) : CloD n_store_End_2 [.ad 2 [txC t] 0 0] (fun x => isTx x.site x.n t)
open Classical in
noncomputable def gL (f : Nat) (caps : List D) : Lk → Bool := if h : ∃ g, CloL f caps g then h.choose else fun _ => false
open Classical in
noncomputable def gD (f : Nat) (caps : List D) : Db → Bool := if h : ∃ g, CloD f caps g then h.choose else fun _ => false
theorem txC_inj {t u : Tx} (h : txC t = txC u) : t = u := by
  obtain ⟨a, b⟩ := t
  obtain ⟨c, d⟩ := u
  simpa [txC] using h
theorem dbC_inj {t u : Db} (h : dbC t = dbC u) : t = u := by
  obtain ⟨a, b, c⟩ := t
  obtain ⟨a', b', c'⟩ := u
  simpa [dbC] using h
theorem CloL.uniq {f : Nat} {caps : List D} {g g' : Lk → Bool} (h : CloL f caps g) (h' : CloL f caps g') : g = g' := by
  generalize hf : f = f' at h'
  generalize hc : caps = caps' at h'
  cases h <;> cases h' <;> simp [n_store_lock_1, n_store_busy_1, n_store_doubts_1, n_store_End_1] at hf
  all_goals simp at hc
  · obtain ⟨h1, h2⟩ := hc
    rw [txC_inj h1, h2]
  · obtain ⟨h1, h2, h3⟩ := hc
    rw [txC_inj h2, h1, h3]
  · rw [dbC_inj hc]
  · rw [txC_inj hc]
theorem CloD.uniq {f : Nat} {caps : List D} {g g' : Db → Bool} (h : CloD f caps g) (h' : CloD f caps g') : g = g' := by
  generalize hf : f = f' at h'
  generalize hc : caps = caps' at h'
  cases h <;> cases h' <;> simp [n_store_doubted_1, n_store_End_2] at hf
  all_goals simp at hc
  · rw [txC_inj hc]
  · rw [txC_inj hc]
theorem gL_eq {f : Nat} {caps : List D} {g : Lk → Bool} (h : CloL f caps g) : gL f caps = g := by
  have he : ∃ g, CloL f caps g := ⟨g, h⟩
  rw [gL, dif_pos he]
  exact he.choose_spec.uniq h
theorem gD_eq {f : Nat} {caps : List D} {g : Db → Bool} (h : CloD f caps g) : gD f caps = g := by
  have he : ∃ g, CloD f caps g := ⟨g, h⟩
  rw [gD, dif_pos he]
  exact he.choose_spec.uniq h
theorem CloL.lt {f : Nat} {caps : List D} {g : Lk → Bool} (h : CloL f caps g) : f < 1000000 := by
  cases h <;> decide
theorem CloD.lt {f : Nat} {caps : List D} {g : Db → Bool} (h : CloD f caps g) : f < 1000000 := by
  cases h <;> decide

/-- The functions' specifications. -/
noncomputable def sp_cloL (f : Nat) : Sp := { pre := fun ds => ∃ x caps g, ds = .agg (lkC x) :: caps ∧ CloL f caps g, F := fun | .agg x :: caps => .bool (gL f caps (lkOf x)) | _ => .any }
noncomputable def sp_cloD (f : Nat) : Sp := { pre := fun ds => ∃ x caps g, ds = .agg (dbC x) :: caps ∧ CloD f caps g, F := fun | .agg x :: caps => .bool (gD f caps (dbOf x)) | _ => .any }
noncomputable def sp_IndexL : Sp := { pre := fun ds => ∃ (l : List Lk) (f : Nat) (caps : List D) (g : Lk → Bool), ds = [.fz 6 (l.map lkC), .clo f caps] ∧ CloL f caps g ∧ l.length ≤ 100000, F := fun | [x, .clo f caps] => .int .i64 (idxOf (gL f caps) (lsOf lkOf x)) | _ => .any }
noncomputable def sp_IndexD : Sp := { pre := fun ds => ∃ (l : List Db) (f : Nat) (caps : List D) (g : Db → Bool), ds = [.fz 3 (l.map dbC), .clo f caps] ∧ CloD f caps g ∧ l.length ≤ 100000, F := fun | [x, .clo f caps] => .int .i64 (idxOf (gD f caps) (lsOf dbOf x)) | _ => .any }
noncomputable def sp_ContL : Sp := { pre := fun ds => ∃ (l : List Lk) (f : Nat) (caps : List D) (g : Lk → Bool), ds = [.fz 6 (l.map lkC), .clo f caps] ∧ CloL f caps g ∧ l.length ≤ 100000, F := fun | [x, .clo f caps] => .bool ((lsOf lkOf x).any (gL f caps)) | _ => .any }
noncomputable def sp_ContD : Sp := { pre := fun ds => ∃ (l : List Db) (f : Nat) (caps : List D) (g : Db → Bool), ds = [.fz 3 (l.map dbC), .clo f caps] ∧ CloD f caps g ∧ l.length ≤ 100000, F := fun | [x, .clo f caps] => .bool ((lsOf dbOf x).any (gD f caps)) | _ => .any }
def sp_IndexT : Sp := { pre := fun ds => ∃ (l : List Tx) (t : Tx), ds = [.fz 2 (l.map txC), .agg (txC t)] ∧ l.length ≤ 100000, F := fun | [x, .agg t] => .int .i64 (idxOf (fun u : Tx => isTx u.1 u.2 (txOf t)) (lsOf txOf x)) | _ => .any }
def sp_ContT : Sp := { pre := fun ds => ∃ (l : List Tx) (t : Tx), ds = [.fz 2 (l.map txC), .agg (txC t)] ∧ l.length ≤ 100000, F := fun | [x, .agg t] => .bool ((lsOf txOf x).any (fun u : Tx => isTx u.1 u.2 (txOf t))) | _ => .any }

section
variable {T : Tb}
attribute [local simp] k_seq k_block k_skip k_reg k_alt k_cond k_exit k_ret kf_nil kf_seq_n kf_seq_e kf_seq_r kf_blk_n kf_blk_e kf_blk_r kf_lp_n kf_lp_e kf_lp_r kf_cut_n kf_cut_e kf_cut_r mkTm VCops VCalt istep act gd applyE wrapD Opd.ev get_mk set_mk set_mk0 tget16 tset16 tget_0 tset_0 tget_1 tset_1 tget_2 tset_2 tget_3 tset_3 tget_4 tset_4 tget_5 tset_5 tget_6 tset_6 tget_7 tset_7 tget_8 tset_8 tget_9 tset_9 tget_10 tset_10 tget_11 tset_11 tget_12 tset_12 tget_13 tset_13 tget_14 tset_14 tget_15 tset_15 D.un D.gu gus IOp.opds binD fnPost getRes IRes.get oneRes D.out outL D.clos closL D.norow norowL D.lv lvL D.scal scalL D.cells D.cell D.cell' St.lk obPut obDel List.lookup cut pickD splice fillParts fillRows elem_cons newsOf D.pl D.forget forgetL Ob.forget forgetO eqCells sg leD leDL leOb apartK St.le D.keys keysL D.rows rowsL obKeys addKeys reach pos D.ren renL Ob.ren inM outM inObs outObs goneK apartN okNames_eq okNms obNms namesOK_nil namesOK_cons freeOK_nil freeOK_cons D.frz frzL Ob.frz frzO St.frz forgetLs dropObs putObs hcall freeOf keeps baseN shD isShift shMax k_bad VCopsG frz_nil actx actc cnum vwCut St.frzT St.opnT St.clsT D.opn opnL Ob.opn opnO VCou VCcx St.oneS D.objI D.objK scrL D.scr St.opnS St.clsS D.cellS D.fzs fzsL k_mrk k_mrq IOper.gh
/-- The closures stand in the table. -/
def ClosL (T : Tb) : Prop := ∀ f caps g, CloL f caps g → T.sp f = some (sp_cloL f)
def ClosD (T : Tb) : Prop := ∀ f caps g, CloD f caps g → T.sp f = some (sp_cloD f)
theorem cloL_F {f : Nat} {caps : List D} {g : Lk → Bool} (h : CloL f caps g) (x : Lk) : (sp_cloL f).F (.agg (lkC x) :: caps) = .bool (g x) := by
  simp only [sp_cloL, gL_eq h]
  rfl
theorem cloL_pre {f : Nat} {caps : List D} {g : Lk → Bool} (h : CloL f caps g) (x : Lk) : (sp_cloL f).pre (.agg (lkC x) :: caps) = True := by
  simp only [sp_cloL, eq_iff_iff, iff_true]; exact ⟨x, caps, g, rfl, h⟩
theorem cloD_F {f : Nat} {caps : List D} {g : Db → Bool} (h : CloD f caps g) (x : Db) : (sp_cloD f).F (.agg (dbC x) :: caps) = .bool (g x) := by
  simp only [sp_cloD, gD_eq h]
  rfl
theorem cloD_pre {f : Nat} {caps : List D} {g : Db → Bool} (h : CloD f caps g) (x : Db) : (sp_cloD f).pre (.agg (dbC x) :: caps) = True := by
  simp only [sp_cloD, eq_iff_iff, iff_true]; exact ⟨x, caps, g, rfl, h⟩

theorem v_lock_1 : Verified T ir_store_lock_1 (sp_cloL n_store_lock_1) := by
  refine Verified.mk ?_
  rintro ds ⟨⟨a, b, k, w, v, q⟩, caps, g, rfl, h⟩
  have hF : (sp_cloL n_store_lock_1).F (.agg (lkC ⟨a, b, k, w, v, q⟩) :: caps) = .bool (g ⟨a, b, k, w, v, q⟩) := cloL_F h _
  rw [hF]
  clear hF
  generalize hf : n_store_lock_1 = f at h
  cases h <;> simp [n_store_lock_1, n_store_busy_1, n_store_doubts_1, n_store_End_1] at hf
  rename_i t k'
  obtain ⟨t1, t2⟩ := t
  simp (implicitDefEqProofs := false) [ir_store_lock_1, lkC, txC, dbC, isTx]
  try first | rfl | exact fun p q => ⟨⟨p, q⟩, fun r => ⟨⟨p, q⟩, r⟩⟩
theorem v_busy_1 : Verified T ir_store_busy_1 (sp_cloL n_store_busy_1) := by
  refine Verified.mk ?_
  rintro ds ⟨⟨a, b, k, w, v, q⟩, caps, g, rfl, h⟩
  have hF : (sp_cloL n_store_busy_1).F (.agg (lkC ⟨a, b, k, w, v, q⟩) :: caps) = .bool (g ⟨a, b, k, w, v, q⟩) := cloL_F h _
  rw [hF]
  clear hF
  generalize hf : n_store_busy_1 = f at h
  cases h <;> simp [n_store_lock_1, n_store_busy_1, n_store_doubts_1, n_store_End_1] at hf
  rename_i t k' al
  obtain ⟨t1, t2⟩ := t
  simp (implicitDefEqProofs := false) [ir_store_busy_1, lkC, txC, dbC, isTx]
  try first | rfl | exact fun p q => ⟨⟨p, q⟩, fun r => ⟨⟨p, q⟩, r⟩⟩
theorem v_doubts_1 : Verified T ir_store_doubts_1 (sp_cloL n_store_doubts_1) := by
  refine Verified.mk ?_
  rintro ds ⟨⟨a, b, k, w, v, q⟩, caps, g, rfl, h⟩
  have hF : (sp_cloL n_store_doubts_1).F (.agg (lkC ⟨a, b, k, w, v, q⟩) :: caps) = .bool (g ⟨a, b, k, w, v, q⟩) := cloL_F h _
  rw [hF]
  clear hF
  generalize hf : n_store_doubts_1 = f at h
  cases h <;> simp [n_store_lock_1, n_store_busy_1, n_store_doubts_1, n_store_End_1] at hf
  rename_i d
  obtain ⟨t1, t2, t3⟩ := d
  simp (implicitDefEqProofs := false) [ir_store_doubts_1, lkC, txC, dbC, isTx]
  try first | rfl | exact fun p q => ⟨⟨p, q⟩, fun r => ⟨⟨p, q⟩, r⟩⟩
theorem v_End_1 : Verified T ir_store_End_1 (sp_cloL n_store_End_1) := by
  refine Verified.mk ?_
  rintro ds ⟨⟨a, b, k, w, v, q⟩, caps, g, rfl, h⟩
  have hF : (sp_cloL n_store_End_1).F (.agg (lkC ⟨a, b, k, w, v, q⟩) :: caps) = .bool (g ⟨a, b, k, w, v, q⟩) := cloL_F h _
  rw [hF]
  clear hF
  generalize hf : n_store_End_1 = f at h
  cases h <;> simp [n_store_lock_1, n_store_busy_1, n_store_doubts_1, n_store_End_1] at hf
  rename_i t
  obtain ⟨t1, t2⟩ := t
  simp (implicitDefEqProofs := false) [ir_store_End_1, lkC, txC, dbC, isTx]
  try first | rfl | exact fun p q => ⟨⟨p, q⟩, fun r => ⟨⟨p, q⟩, r⟩⟩
theorem v_doubted_1 : Verified T ir_store_doubted_1 (sp_cloD n_store_doubted_1) := by
  refine Verified.mk ?_
  rintro ds ⟨⟨a, b, e⟩, caps, g, rfl, h⟩
  have hF : (sp_cloD n_store_doubted_1).F (.agg (dbC ⟨a, b, e⟩) :: caps) = .bool (g ⟨a, b, e⟩) := cloD_F h _
  rw [hF]
  clear hF
  generalize hf : n_store_doubted_1 = f at h
  cases h <;> simp [n_store_doubted_1, n_store_End_2] at hf
  rename_i t
  obtain ⟨t1, t2⟩ := t
  simp (implicitDefEqProofs := false) [ir_store_doubted_1, dbC, txC, dbC, isTx]
  try first | rfl | exact fun p q => ⟨⟨p, q⟩, fun r => ⟨⟨p, q⟩, r⟩⟩
theorem v_End_2 : Verified T ir_store_End_2 (sp_cloD n_store_End_2) := by
  refine Verified.mk ?_
  rintro ds ⟨⟨a, b, e⟩, caps, g, rfl, h⟩
  have hF : (sp_cloD n_store_End_2).F (.agg (dbC ⟨a, b, e⟩) :: caps) = .bool (g ⟨a, b, e⟩) := cloD_F h _
  rw [hF]
  clear hF
  generalize hf : n_store_End_2 = f at h
  cases h <;> simp [n_store_doubted_1, n_store_End_2] at hf
  rename_i t
  obtain ⟨t1, t2⟩ := t
  simp (implicitDefEqProofs := false) [ir_store_End_2, dbC, txC, dbC, isTx]
  try first | rfl | exact fun p q => ⟨⟨p, q⟩, fun r => ⟨⟨p, q⟩, r⟩⟩
set_option maxRecDepth 100000 in
set_option maxHeartbeats 4000000 in
theorem v_IndexL (hc : ClosL T) : Verified T ir_slices_IndexFunc_reredos_api_Lock_reredos_api_Lock sp_IndexL := by
  refine Verified.mk ?_
  rintro ds ⟨l, f, caps, g, rfl, h, hl⟩
  have hsp := hc f caps g h
  have hlt := h.lt
  have hg := gL_eq h
  have hx : (sp_cloL f).hx = none := rfl
  have hcn : cnum T f = f := by rw [cnum, hsp]; rfl
  simp only [sp_IndexL, lks_of, hg]
  have hF := fun x => cloL_F h x
  have hP := fun x => cloL_pre h x
  have hcl : closL caps = true := by cases h <;> rfl
  have hlv : ∀ lk, lvL lk caps = true := fun lk => by cases h <;> rfl
  have hout : ∀ lk, outL lk caps = caps := fun lk => by cases h <;> rfl
  have hfz : ∀ lk ks, frzL lk ks caps = caps := fun lk ks => by cases h <;> rfl
  simp (implicitDefEqProofs := false) [ir_slices_IndexFunc_reredos_api_Lock_reredos_api_Lock]
  refine k_loop (ι := {j : Nat // j ≤ l.length ∧ ∀ i (hi : i < j) (hl : i < l.length), g l[i] = false}) (fun x => ⟨mkTm 19 0 [(0, .fz 6 (l.map lkC)), (1, .clo f caps), (6, .fz 6 (l.map lkC)), (7, .int .i64 l.length), (8, .int .i64 x.1)], []⟩)
    (fun x => l.length - x.1) [] ⟨0, by omega, fun i hi => by omega⟩ (by simp (implicitDefEqProofs := false) [hcl]) ?_
  rintro ⟨j, hj, hb⟩ P hQ
  by_cases hjl : j < l.length
  · have hjl' : (j : Int) < l.length := by omega
    have hel := elem_map lkC l j hjl
    have hF' := hF l[j]
    have hP' := hP l[j]
    have hfnd : g l[j] = true → (j : Int) = idxOf g l := fun hq => (idxOf_found hjl hq fun i hi => hb i hi (by omega)).symm
    have hnx : g l[j] = false → ∀ i (hi : i < j + 1) (hl : i < l.length), g l[i] = false := fun hq i hi hl => by
      by_cases e : i = j
      · subst e; exact hq
      · exact hb i (by omega) hl
    generalize l[j] = x at hel hF' hP' hfnd hnx
    clear hF hP
    cases hgx : g x
    · rw [hgx] at hF'
      replace hnx := hnx hgx
      clear hfnd
      obtain ⟨a, b, k, w, v, q⟩ := x
      simp only [lkC] at hel hF' hP'
      simp (implicitDefEqProofs := false) [ir_slices_IndexFunc_reredos_api_Lock_reredos_api_Lock_b0, hjl', hjl, hel, hlt, hcn, hsp, hx, hF', hP', hcl, hlv, hout, hfz]
      exact ⟨by simp only [inR]; omega, hQ _ [] ⟨j + 1, by omega, hnx⟩ (by simp (implicitDefEqProofs := false) [hcl, hfz]) (by simp only; omega)⟩
    · rw [hgx] at hF'
      have hfnd2 := hfnd hgx
      clear hnx hfnd
      obtain ⟨a, b, k, w, v, q⟩ := x
      simp only [lkC] at hel hF' hP'
      simp (implicitDefEqProofs := false) [ir_slices_IndexFunc_reredos_api_Lock_reredos_api_Lock_b0, hjl', hjl, hel, hlt, hcn, hsp, hx, hF', hP', hcl, hlv, hout, hfz]
      exact hfnd2
  · have hjl' : ¬ (j : Int) < l.length := by omega
    have hn : idxOf g l = -1 := idxOf_none fun i hi => hb i (by omega) hi
    simp (implicitDefEqProofs := false) [ir_slices_IndexFunc_reredos_api_Lock_reredos_api_Lock_b0, ir_slices_IndexFunc_reredos_api_Lock_reredos_api_Lock_r1, hjl', hn]
theorem indexL_F {l : List Lk} {f : Nat} {caps : List D} {g} (h : CloL f caps g) : sp_IndexL.F [.fz 6 (l.map lkC), .clo f caps] = .int .i64 (idxOf g l) := by
  simp only [sp_IndexL, lks_of, gL_eq h]
theorem indexL_pre {l : List Lk} {f : Nat} {caps : List D} {g} (h : CloL f caps g) (hl : l.length ≤ 100000) : sp_IndexL.pre [.fz 6 (l.map lkC), .clo f caps] = True := by
  simp only [sp_IndexL, eq_iff_iff, iff_true]; exact ⟨l, f, caps, g, rfl, h, hl⟩
theorem contL_F {l : List Lk} {f : Nat} {caps : List D} {g} (h : CloL f caps g) : sp_ContL.F [.fz 6 (l.map lkC), .clo f caps] = .bool (l.any g) := by
  simp only [sp_ContL, lks_of, gL_eq h]
theorem contL_pre {l : List Lk} {f : Nat} {caps : List D} {g} (h : CloL f caps g) (hl : l.length ≤ 100000) : sp_ContL.pre [.fz 6 (l.map lkC), .clo f caps] = True := by
  simp only [sp_ContL, eq_iff_iff, iff_true]; exact ⟨l, f, caps, g, rfl, h, hl⟩
theorem v_ContL (h1 : T.sp n_slices_IndexFunc_reredos_api_Lock_reredos_api_Lock = some sp_IndexL) : Verified T ir_slices_ContainsFunc_reredos_api_Lock_reredos_api_Lock sp_ContL := by
  refine Verified.mk ?_
  rintro ds ⟨l, f, caps, g, rfl, h, hl⟩
  rw [contL_F h]
  have hx : sp_IndexL.hx = none := rfl
  have hF := indexL_F (l := l) h
  have hP := indexL_pre h hl
  have hcl : closL caps = true := by cases h <;> rfl
  have hlv : ∀ lk, lvL lk caps = true := fun lk => by cases h <;> rfl
  have hout : ∀ lk, outL lk caps = caps := fun lk => by cases h <;> rfl
  have hnr : norowL caps = true := by cases h <;> rfl
  have hge := idxOf_ge g l
  simp (implicitDefEqProofs := false) [ir_slices_ContainsFunc_reredos_api_Lock_reredos_api_Lock, h1, hx, hF, hP, hcl, hlv, hout, hnr]
  exact hge
set_option maxRecDepth 100000 in
set_option maxHeartbeats 4000000 in
theorem v_IndexD (hc : ClosD T) : Verified T ir_slices_IndexFunc_reredos_api_Doubt_reredos_api_Doubt sp_IndexD := by
  refine Verified.mk ?_
  rintro ds ⟨l, f, caps, g, rfl, h, hl⟩
  have hsp := hc f caps g h
  have hlt := h.lt
  have hg := gD_eq h
  have hx : (sp_cloD f).hx = none := rfl
  have hcn : cnum T f = f := by rw [cnum, hsp]; rfl
  simp only [sp_IndexD, dbs_of, hg]
  have hF := fun x => cloD_F h x
  have hP := fun x => cloD_pre h x
  have hcl : closL caps = true := by cases h <;> rfl
  have hlv : ∀ lk, lvL lk caps = true := fun lk => by cases h <;> rfl
  have hout : ∀ lk, outL lk caps = caps := fun lk => by cases h <;> rfl
  have hfz : ∀ lk ks, frzL lk ks caps = caps := fun lk ks => by cases h <;> rfl
  simp (implicitDefEqProofs := false) [ir_slices_IndexFunc_reredos_api_Doubt_reredos_api_Doubt]
  refine k_loop (ι := {j : Nat // j ≤ l.length ∧ ∀ i (hi : i < j) (hl : i < l.length), g l[i] = false}) (fun x => ⟨mkTm 19 0 [(0, .fz 3 (l.map dbC)), (1, .clo f caps), (6, .fz 3 (l.map dbC)), (7, .int .i64 l.length), (8, .int .i64 x.1)], []⟩)
    (fun x => l.length - x.1) [] ⟨0, by omega, fun i hi => by omega⟩ (by simp (implicitDefEqProofs := false) [hcl]) ?_
  rintro ⟨j, hj, hb⟩ P hQ
  by_cases hjl : j < l.length
  · have hjl' : (j : Int) < l.length := by omega
    have hel := elem_map dbC l j hjl
    have hF' := hF l[j]
    have hP' := hP l[j]
    have hfnd : g l[j] = true → (j : Int) = idxOf g l := fun hq => (idxOf_found hjl hq fun i hi => hb i hi (by omega)).symm
    have hnx : g l[j] = false → ∀ i (hi : i < j + 1) (hl : i < l.length), g l[i] = false := fun hq i hi hl => by
      by_cases e : i = j
      · subst e; exact hq
      · exact hb i (by omega) hl
    generalize l[j] = x at hel hF' hP' hfnd hnx
    clear hF hP
    cases hgx : g x
    · rw [hgx] at hF'
      replace hnx := hnx hgx
      clear hfnd
      obtain ⟨a, b, e⟩ := x
      simp only [dbC] at hel hF' hP'
      simp (implicitDefEqProofs := false) [ir_slices_IndexFunc_reredos_api_Doubt_reredos_api_Doubt_b0, hjl', hjl, hel, hlt, hcn, hsp, hx, hF', hP', hcl, hlv, hout, hfz]
      exact ⟨by simp only [inR]; omega, hQ _ [] ⟨j + 1, by omega, hnx⟩ (by simp (implicitDefEqProofs := false) [hcl, hfz]) (by simp only; omega)⟩
    · rw [hgx] at hF'
      have hfnd2 := hfnd hgx
      clear hnx hfnd
      obtain ⟨a, b, e⟩ := x
      simp only [dbC] at hel hF' hP'
      simp (implicitDefEqProofs := false) [ir_slices_IndexFunc_reredos_api_Doubt_reredos_api_Doubt_b0, hjl', hjl, hel, hlt, hcn, hsp, hx, hF', hP', hcl, hlv, hout, hfz]
      exact hfnd2
  · have hjl' : ¬ (j : Int) < l.length := by omega
    have hn : idxOf g l = -1 := idxOf_none fun i hi => hb i (by omega) hi
    simp (implicitDefEqProofs := false) [ir_slices_IndexFunc_reredos_api_Doubt_reredos_api_Doubt_b0, ir_slices_IndexFunc_reredos_api_Doubt_reredos_api_Doubt_r1, hjl', hn]
theorem indexD_F {l : List Db} {f : Nat} {caps : List D} {g} (h : CloD f caps g) : sp_IndexD.F [.fz 3 (l.map dbC), .clo f caps] = .int .i64 (idxOf g l) := by
  simp only [sp_IndexD, dbs_of, gD_eq h]
theorem indexD_pre {l : List Db} {f : Nat} {caps : List D} {g} (h : CloD f caps g) (hl : l.length ≤ 100000) : sp_IndexD.pre [.fz 3 (l.map dbC), .clo f caps] = True := by
  simp only [sp_IndexD, eq_iff_iff, iff_true]; exact ⟨l, f, caps, g, rfl, h, hl⟩
theorem contD_F {l : List Db} {f : Nat} {caps : List D} {g} (h : CloD f caps g) : sp_ContD.F [.fz 3 (l.map dbC), .clo f caps] = .bool (l.any g) := by
  simp only [sp_ContD, dbs_of, gD_eq h]
theorem contD_pre {l : List Db} {f : Nat} {caps : List D} {g} (h : CloD f caps g) (hl : l.length ≤ 100000) : sp_ContD.pre [.fz 3 (l.map dbC), .clo f caps] = True := by
  simp only [sp_ContD, eq_iff_iff, iff_true]; exact ⟨l, f, caps, g, rfl, h, hl⟩
theorem v_ContD (h1 : T.sp n_slices_IndexFunc_reredos_api_Doubt_reredos_api_Doubt = some sp_IndexD) : Verified T ir_slices_ContainsFunc_reredos_api_Doubt_reredos_api_Doubt sp_ContD := by
  refine Verified.mk ?_
  rintro ds ⟨l, f, caps, g, rfl, h, hl⟩
  rw [contD_F h]
  have hx : sp_IndexD.hx = none := rfl
  have hF := indexD_F (l := l) h
  have hP := indexD_pre h hl
  have hcl : closL caps = true := by cases h <;> rfl
  have hlv : ∀ lk, lvL lk caps = true := fun lk => by cases h <;> rfl
  have hout : ∀ lk, outL lk caps = caps := fun lk => by cases h <;> rfl
  have hnr : norowL caps = true := by cases h <;> rfl
  have hge := idxOf_ge g l
  simp (implicitDefEqProofs := false) [ir_slices_ContainsFunc_reredos_api_Doubt_reredos_api_Doubt, h1, hx, hF, hP, hcl, hlv, hout, hnr]
  exact hge
set_option maxRecDepth 100000 in
set_option maxHeartbeats 4000000 in
theorem v_IndexT : Verified T ir_slices_Index_reredos_api_Txn_reredos_api_Txn sp_IndexT := by
  refine Verified.mk ?_
  rintro ds ⟨l, ⟨t1, t2⟩, rfl, hl⟩
  have htx : txOf (txC (t1, t2)) = (t1, t2) := rfl
  simp only [sp_IndexT, txs_of, htx]
  simp (implicitDefEqProofs := false) [ir_slices_Index_reredos_api_Txn_reredos_api_Txn, txC]
  generalize hg : (fun u : Tx => isTx u.1 u.2 (t1, t2)) = g
  have hga : ∀ a b, g (a, b) = (decide (a = t1) && decide (b = t2)) := fun a b => by rw [← hg]; simp [isTx]
  refine k_loop (ι := {j : Nat // j ≤ l.length ∧ ∀ i (hi : i < j) (hl : i < l.length), g l[i] = false}) (fun x => ⟨mkTm 19 0 [(0, .fz 2 (l.map txC)), (3, .own 3 0), (6, .fz 2 (l.map txC)), (7, .int .i64 l.length), (8, .int .i64 x.1)], [(3, .box [.int .i64 t1, .int .i64 t2])]⟩)
    (fun x => l.length - x.1) [] ⟨0, by omega, fun i hi => by omega⟩ (by simp (implicitDefEqProofs := false)) ?_
  rintro ⟨j, hj, hb⟩ P hQ
  by_cases hjl : j < l.length
  · have hjl' : (j : Int) < l.length := by omega
    have hel := elem_map txC l j hjl
    have hfnd : g l[j] = true → (j : Int) = idxOf g l := fun hq => (idxOf_found hjl hq fun i hi => hb i hi (by omega)).symm
    have hnx : g l[j] = false → ∀ i (hi : i < j + 1) (hl : i < l.length), g l[i] = false := fun hq i hi hl => by
      by_cases e : i = j
      · subst e; exact hq
      · exact hb i (by omega) hl
    generalize l[j] = x at hel hfnd hnx
    obtain ⟨a, b⟩ := x
    rw [hga] at hfnd hnx
    simp only [txC] at hel
    by_cases he : a = t1 ∧ b = t2
    · obtain ⟨rfl, rfl⟩ := he
      have hfnd2 := hfnd (by simp)
      simp (implicitDefEqProofs := false) [ir_slices_Index_reredos_api_Txn_reredos_api_Txn_b0, hjl', hjl, hel]
      exact hfnd2
    · have hn := hnx (by simp; omega)
      have h1 : t1 = a → ¬ t2 = b := fun p q => he ⟨p.symm, q.symm⟩
      simp (implicitDefEqProofs := false) [ir_slices_Index_reredos_api_Txn_reredos_api_Txn_b0, hjl', hjl, hel]
      refine ⟨fun p q => absurd q (h1 p), fun _ => ⟨by simp only [inR]; omega, hQ _ [] ⟨j + 1, by omega, hn⟩ (by simp (implicitDefEqProofs := false)) (by simp only; omega)⟩⟩
  · have hjl' : ¬ (j : Int) < l.length := by omega
    have hn : idxOf g l = -1 := idxOf_none fun i hi => hb i (by omega) hi
    simp (implicitDefEqProofs := false) [ir_slices_Index_reredos_api_Txn_reredos_api_Txn_b0, ir_slices_Index_reredos_api_Txn_reredos_api_Txn_r1, hjl', hn]
theorem contT_F (l : List Tx) (t : Tx) : sp_ContT.F [.fz 2 (l.map txC), .agg (txC t)] = .bool (l.any fun u => isTx u.1 u.2 t) := by
  have htx : txOf (txC t) = t := rfl
  simp only [sp_ContT, txs_of, htx]
theorem contT_pre {l : List Tx} (t : Tx) (hl : l.length ≤ 100000) : sp_ContT.pre [.fz 2 (l.map txC), .agg (txC t)] = True := by
  simp only [sp_ContT, eq_iff_iff, iff_true]; exact ⟨l, t, rfl, hl⟩
theorem v_ContT (h1 : T.sp n_slices_Index_reredos_api_Txn_reredos_api_Txn = some sp_IndexT) : Verified T ir_slices_Contains_reredos_api_Txn_reredos_api_Txn sp_ContT := by
  refine Verified.mk ?_
  rintro ds ⟨l, ⟨t1, t2⟩, rfl, hl⟩
  rw [contT_F]
  have hx : sp_IndexT.hx = none := rfl
  have hF : sp_IndexT.F [.fz 2 (l.map txC), .agg [.int .i64 t1, .int .i64 t2]] = .int .i64 (idxOf (fun u => isTx u.1 u.2 (t1, t2)) l) := by
    simp only [sp_IndexT, txs_of]; rfl
  have hP : sp_IndexT.pre [.fz 2 (l.map txC), .agg [.int .i64 t1, .int .i64 t2]] = True := by
    simp only [sp_IndexT, eq_iff_iff, iff_true]; exact ⟨l, (t1, t2), rfl, hl⟩
  have hge := idxOf_ge (fun u : Tx => isTx u.1 u.2 (t1, t2)) l
  simp (implicitDefEqProofs := false) [ir_slices_Contains_reredos_api_Txn_reredos_api_Txn, h1, hx, hF, hP, txC]
  exact hge
end
end Go.Proofs.YtghehknnaifoeaaDoor
