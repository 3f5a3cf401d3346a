/-
  Tasks and jobs: their data; coord.Check computes what its specification says. Conditions: those of each specification's 'pre', and that the functions that are called are what theirs say.
-/
import Derived.Test.YtchbnpjegacobaaDoorHrA
set_option linter.unusedVariables false
set_option linter.unusedSimpArgs false
namespace Go.Proofs.YtchbnpjegacobaaDoor
open Go Go.Vcg

def ic (n : Int) : List D := [.int .i64 n]
def intsD (ns : List Int) : D := .fz 1 (ns.map ic)
def intOf : List D → Int
  | [.int _ n] => n
  | _ => 0
theorem intOf_ic : intOf ∘ ic = id := rfl
def intsOf : D → List Int
  | .fz _ es => es.map intOf
  | _ => []
theorem intsOf_intsD (ns : List Int) : intsOf (intsD ns) = ns := by
  simp [intsOf, intsD, intOf_ic]

def lsOf {α : Type} (f : List D → α) : D → List α
  | .fz _ es => es.map f
  | _ => []
theorem lsOf_map {α : Type} {f : List D → α} {g : α → List D} (h : ∀ x, f (g x) = x) (k : Nat) (l : List α) : lsOf f (.fz k (l.map g)) = l := by
  simp only [lsOf, List.map_map]
  have : f ∘ g = id := funext h
  rw [this, List.map_id]
theorem isCfg_mk (S : Int) (ls : List (Int × Int)) (P : Int) : isCfg (cfgD S ls P) = true := by
  simp [isCfg, cfgD, isLb_lbc]
/-- The first j of these are sites in order. -/
def okUpto (S : Int) (l : List Int) (j : Nat) : Prop := ∀ i, i < j → 0 ≤ l.getD i 0 ∧ l.getD i 0 < S ∧ (0 < i → l.getD (i - 1) 0 < l.getD i 0)
theorem okUpto_succ {S : Int} {l : List Int} {j : Nat} : okUpto S l (j + 1) ↔ okUpto S l j ∧ 0 ≤ l.getD j 0 ∧ l.getD j 0 < S ∧ (0 < j → l.getD (j - 1) 0 < l.getD j 0) := by
  constructor
  · intro h
    exact ⟨fun i hi => h i (by omega), h j (by omega)⟩
  · rintro ⟨h1, h2⟩ i hi
    by_cases e : i = j
    · subst e; exact h2
    · exact h1 i (by omega)

theorem okUpto_ge {S : Int} {l : List Int} {j : Nat} (h : okUpto S l j) : ∀ i, i < j → (i : Int) ≤ l.getD i 0
  | 0, hi => by have := (h 0 hi).1; omega
  | i + 1, hi => by
    have h1 := okUpto_ge h i (by omega)
    have h2 := (h (i + 1) hi).2.2 (by omega)
    simp only [Nat.add_sub_cancel] at h2
    omega
theorem okUpto_len {S : Int} {l : List Int} (h : okUpto S l l.length) (hS : 0 ≤ S) : (l.length : Int) ≤ S := by
  by_cases h0 : l.length = 0
  · omega
  · have h1 := okUpto_ge h (l.length - 1) (by omega)
    have h2 := (h (l.length - 1) (by omega)).2.1
    omega
structure Tk where
  (wr : Bool) (label key value version ask : Int) (done sure : Bool)
  deriving DecidableEq
def tkC (t : Tk) : List D := [.bool t.wr, .int .i64 t.label, .int .i64 t.key, .int .i64 t.value, .int .i64 t.version, .int .i64 t.ask, .bool t.done, .bool t.sure]
def tkOf : List D → Tk
  | [.bool w, .int _ l, .int _ k, .int _ v, .int _ n, .int _ q, .bool d, .bool s] => ⟨w, l, k, v, n, q, d, s⟩
  | _ => ⟨false, 0, 0, 0, 0, 0, false, false⟩
structure Jb where
  (n state : Int) (tasks : List Tk) (asked : List Int) (asks age : Int)
  deriving DecidableEq
def jbC (j : Jb) : List D := [.int .i64 j.n, .int .i64 j.state, .fz 8 (j.tasks.map tkC), .fz 1 (j.asked.map ic), .int .i64 j.asks, .int .i64 j.age]
def jbOf : List D → Jb
  | [.int _ n, .int _ s, .fz _ t, .fz _ a, .int _ g, .int _ q] => ⟨n, s, lsOf tkOf (.fz 8 t), intsOf (.fz 1 a), g, q⟩
  | _ => ⟨0, 0, [], [], 0, 0⟩
theorem tkOf_tkC (t : Tk) : tkOf (tkC t) = t := rfl
theorem tks_of (l : List Tk) : lsOf tkOf (.fz 8 (l.map tkC)) = l := lsOf_map tkOf_tkC 8 l
theorem jbOf_jbC (j : Jb) : jbOf (jbC j) = j := by
  obtain ⟨a, b, c, d, e, f⟩ := j
  have h : intsOf (.fz 1 (d.map ic)) = d := intsOf_intsD d
  simp only [jbOf, jbC, tks_of, h]
theorem jbs_of (l : List Jb) : lsOf jbOf (.fz 6 (l.map jbC)) = l := lsOf_map jbOf_jbC 6 l
def jb0 : Jb := ⟨0, 0, [], [], 0, 0⟩


def tk0 : Tk := ⟨false, 0, 0, 0, 0, 0, false, false⟩
/-- A task that may be, where there are so many labels. -/
def okTk (nl : Nat) (t : Tk) : Bool := !(decide (t.label < 0) || decide ((nl : Int) ≤ t.label) || decide (t.key < 0) || decide (8 ≤ t.key) || decide (t.value < 0) || decide (1073741824 < t.value) || decide (t.version < 0) || decide (1048576 < t.version) || decide (t.ask < 1) || decide (1048576 < t.ask)) && (t.done || (!t.sure && (t.wr || decide (t.value + t.version = 0))))
theorem okTk_eq (nl : Nat) (w : Bool) (l k v n q : Int) (d s : Bool) : okTk nl ⟨w, l, k, v, n, q, d, s⟩ = (!(decide (l < 0) || decide ((nl : Int) ≤ l) || decide (k < 0) || decide (8 ≤ k) || decide (v < 0) || decide (1073741824 < v) || decide (n < 0) || decide (1048576 < n) || decide (q < 1) || decide (1048576 < q)) && (d || (!s && (w || decide (v + n = 0))))) := rfl
def okTks (nl : Nat) (j : Jb) (m : Nat) : Prop := ∀ i, i < m → okTk nl (j.tasks.getD i tk0) = true ∧ (j.tasks.getD i tk0).ask ≤ j.asks ∧ (0 < i → (j.tasks.getD (i - 1) tk0).ask < (j.tasks.getD i tk0).ask) ∧ ((j.tasks.getD i tk0).done = false → j.tasks.length ≤ i + 1 ∧ j.state = 1)
def okJob (S : Int) (nl : Nat) (next : Int) (j : Jb) : Prop := 1 ≤ j.n ∧ j.n < next ∧ 0 ≤ j.age ∧ j.age ≤ 1048576 ∧ 1 ≤ j.state ∧ j.state ≤ 3 ∧ j.tasks.length ≤ 10 ∧ 0 ≤ j.asks ∧ j.asks ≤ 1048576 ∧ okTks nl j j.tasks.length ∧ okUpto S j.asked j.asked.length ∧ (j.state = 3 ↔ 0 < j.asked.length)
def okJbs (S : Int) (nl : Nat) (next : Int) (l : List Jb) (m : Nat) : Prop := ∀ i, i < m → okJob S nl next (l.getD i jb0) ∧ (0 < i → (l.getD (i - 1) jb0).n < (l.getD i jb0).n)
open Classical in
noncomputable def jobB (S : Int) (nl : Nat) (next : Int) (j : Jb) : Bool := decide (okJob S nl next j)
theorem jobB_iff {S : Int} {nl : Nat} {next : Int} {j : Jb} : jobB S nl next j = true ↔ okJob S nl next j := by simp [jobB]
theorem jobB_yes {S : Int} {nl : Nat} {next : Int} {j : Jb} (h : okJob S nl next j) : jobB S nl next j = true := jobB_iff.2 h
theorem jobB_no {S : Int} {nl : Nat} {next : Int} {j : Jb} (h : ¬ okJob S nl next j) : jobB S nl next j = false := by simpa [jobB] using h
open Classical in
noncomputable def jbsI (S : Int) (nl : Nat) (next : Int) (l : List Jb) : Int := if okJbs S nl next l l.length then 0 else 9
theorem jbsI_yes {S : Int} {nl : Nat} {next : Int} {l : List Jb} (h : okJbs S nl next l l.length) : jbsI S nl next l = 0 := by simp [jbsI, h]
theorem jbsI_no {S : Int} {nl : Nat} {next : Int} {l : List Jb} (h : ¬ okJbs S nl next l l.length) : jbsI S nl next l = 9 := by simp [jbsI, h]
noncomputable def chkD (s : Int) (ls : List (Int × Int)) (p next : Int) (l : List Jb) : Int :=
  if check s ls p ≠ 0 then check s ls p else if next < 1 ∨ 1048577 < next ∨ 6 < l.length then 9 else jbsI s ls.length next l
def jbFew (j : Jb) : Prop := j.tasks.length ≤ 9223372036854775807 ∧ j.asked.length ≤ 9223372036854775807
def dkC (next : Int) (l : List Jb) : List D := [.int .i64 next, .fz 6 (l.map jbC)]
def sp_task : Sp := { pre := fun ds => ∃ (x : D) (t : Tk), ds = [x, .agg (tkC t)] ∧ isCfg x = true, F := fun | [x, .agg t] => .bool (okTk (cfgOf x).2.1.length (tkOf t)) | _ => .any }
noncomputable def sp_job : Sp := { pre := fun ds => ∃ (x : D) (next : Int) (es : List (List D)) (j : Jb), ds = [x, .agg [.int .i64 next, .fz 6 es], .agg (jbC j)] ∧ isCfg x = true ∧ jbFew j, F := fun | [x, .agg [.int _ next, _], .agg j] => .bool (jobB (cfgOf x).1 (cfgOf x).2.1.length next (jbOf j)) | _ => .any }
theorem job_F (S : Int) (ls : List (Int × Int)) (p next : Int) (es : List (List D)) (j : Jb) : sp_job.F [cfgD S ls p, .agg [.int .i64 next, .fz 6 es], .agg (jbC j)] = .bool (jobB S ls.length next j) := by
  simp only [sp_job, cfgOf_cfgD, jbOf_jbC]
theorem job_pre (S : Int) (ls : List (Int × Int)) (p next : Int) (es : List (List D)) {j : Jb} (h : jbFew j) : sp_job.pre [cfgD S ls p, .agg [.int .i64 next, .fz 6 es], .agg (jbC j)] = True := by
  simp only [sp_job, eq_iff_iff, iff_true]; exact ⟨_, next, es, j, rfl, isCfg_mk S ls p, h⟩
noncomputable def sp_CCheck : Sp := { pre := fun ds => ∃ (x : D) (next : Int) (l : List Jb), ds = [x, .agg (dkC next l)] ∧ isCfg x = true ∧ l.length ≤ 9223372036854775807 ∧ (∀ j ∈ l, jbFew j), F := fun | [x, .agg [.int _ next, js]] => .int .i64 (chkD (cfgOf x).1 (cfgOf x).2.1 (cfgOf x).2.2 next (lsOf jbOf js)) | _ => .any }
theorem ccheck_F (S : Int) (ls : List (Int × Int)) (P next : Int) (l : List Jb) : sp_CCheck.F [cfgD S ls P, .agg (dkC next l)] = .int .i64 (chkD S ls P next l) := by
  simp only [sp_CCheck, dkC, cfgOf_cfgD, jbs_of]
theorem ccheck_pre (S : Int) (ls : List (Int × Int)) (P next : Int) {l : List Jb} (hl : l.length ≤ 9223372036854775807) (h : ∀ j ∈ l, jbFew j) : sp_CCheck.pre [cfgD S ls P, .agg (dkC next l)] = True := by
  simp only [sp_CCheck, eq_iff_iff, iff_true]; exact ⟨_, next, l, rfl, isCfg_mk S ls P, hl, h⟩

section
variable {T : Tb}
attribute [local simp] k_seq k_block k_skip k_reg k_alt k_cond k_exit k_ret kf_nil kf_seq_n kf_seq_e kf_seq_r kf_blk_n kf_blk_e kf_blk_r kf_lp_n kf_lp_e kf_lp_r kf_cut_n kf_cut_e kf_cut_r mkTm VCops VCalt istep act gd applyE wrapD Opd.ev get_mk set_mk set_mk0 tget16 tset16 tget_0 tset_0 tget_1 tset_1 tget_2 tset_2 tget_3 tset_3 tget_4 tset_4 tget_5 tset_5 tget_6 tset_6 tget_7 tset_7 tget_8 tset_8 tget_9 tset_9 tget_10 tset_10 tget_11 tset_11 tget_12 tset_12 tget_13 tset_13 tget_14 tset_14 tget_15 tset_15 D.un D.gu gus IOp.opds binD fnPost getRes IRes.get oneRes D.out outL D.clos closL D.norow norowL D.lv lvL D.scal scalL D.cells D.cell D.cell' St.lk obPut obDel List.lookup cut pickD splice fillParts fillRows elem_cons newsOf D.pl D.forget forgetL Ob.forget forgetO eqCells sg leD leDL leOb apartK St.le D.keys keysL D.rows rowsL obKeys addKeys reach pos D.ren renL Ob.ren inM outM inObs outObs goneK apartN okNames_eq okNms obNms namesOK_nil namesOK_cons freeOK_nil freeOK_cons D.frz frzL Ob.frz frzO St.frz forgetLs dropObs putObs hcall freeOf keeps baseN shD isShift shMax k_bad VCopsG frz_nil actx actc cnum vwCut St.frzT St.opnT St.clsT D.opn opnL Ob.opn opnO VCou VCcx St.oneS D.objI D.objK scrL D.scr St.opnS St.clsS D.cellS D.fzs fzsL k_mrk k_mrq IOper.gh
set_option maxRecDepth 100000 in
set_option maxHeartbeats 8000000 in
theorem v_task : Verified T ir_coord_task sp_task := by
  refine Verified.mk ?_
  rintro ds ⟨x, ⟨w, l, k, v, n, q, d, s⟩, rfl, hx⟩
  obtain ⟨S, ls, p, rfl⟩ := isCfg_cfgD hx
  simp only [sp_task, cfgOf_cfgD, tkOf_tkC, okTk_eq]
  simp (implicitDefEqProofs := false) (maxSteps := 10000000) [ir_coord_task, cfgD, tkC]
  refine ⟨fun h => ?_, fun a1 a2 a3 a4 a5 a6 a7 a8 a9 a10 => ?_⟩
  · intros
    exfalso
    omega
  · have d1 : decide (l < 0) = false := decide_eq_false (by omega)
    have d2 : decide ((ls.length : Int) ≤ l) = false := decide_eq_false (by omega)
    have d3 : decide (k < 0) = false := decide_eq_false (by omega)
    have d4 : decide (8 ≤ k) = false := decide_eq_false (by omega)
    have d5 : decide (v < 0) = false := decide_eq_false (by omega)
    have d6 : decide (1073741824 < v) = false := decide_eq_false (by omega)
    have d7 : decide (n < 0) = false := decide_eq_false (by omega)
    have d8 : decide (1048576 < n) = false := decide_eq_false (by omega)
    have d9 : decide (q < 1) = false := decide_eq_false (by omega)
    have d10 : decide (1048576 < q) = false := decide_eq_false (by omega)
    have hi : inR .i64 (v + n) := by simp only [inR]; omega
    have hb : (v + n == 0) = decide (v + n = 0) := rfl
    simp only [d1, d2, d3, d4, d5, d6, d7, d8, d9, d10, hi, hb]
    cases d <;> cases s <;> cases w <;> simp
end
section
variable {T : Tb}
attribute [local simp] k_seq k_block k_skip k_reg k_alt k_cond k_exit k_ret kf_nil kf_seq_n kf_seq_e kf_seq_r kf_blk_n kf_blk_e kf_blk_r kf_lp_n kf_lp_e kf_lp_r kf_cut_n kf_cut_e kf_cut_r mkTm VCops VCalt istep act gd applyE wrapD Opd.ev get_mk set_mk set_mk0 tget16 tset16 tget_0 tset_0 tget_1 tset_1 tget_2 tset_2 tget_3 tset_3 tget_4 tset_4 tget_5 tset_5 tget_6 tset_6 tget_7 tset_7 tget_8 tset_8 tget_9 tset_9 tget_10 tset_10 tget_11 tset_11 tget_12 tset_12 tget_13 tset_13 tget_14 tset_14 tget_15 tset_15 D.un D.gu gus IOp.opds binD fnPost getRes IRes.get oneRes D.out outL D.clos closL D.norow norowL D.lv lvL D.scal scalL D.cells D.cell D.cell' St.lk obPut obDel List.lookup cut pickD splice fillParts fillRows elem_cons newsOf D.pl D.forget forgetL Ob.forget forgetO eqCells sg leD leDL leOb apartK St.le D.keys keysL D.rows rowsL obKeys addKeys reach pos D.ren renL Ob.ren inM outM inObs outObs goneK apartN okNames_eq okNms obNms namesOK_nil namesOK_cons freeOK_nil freeOK_cons D.frz frzL Ob.frz frzO St.frz forgetLs dropObs putObs hcall freeOf keeps baseN shD isShift shMax k_bad VCopsG frz_nil actx actc cnum vwCut St.frzT St.opnT St.clsT D.opn opnL Ob.opn opnO VCou VCcx St.oneS D.objI D.objK scrL D.scr St.opnS St.clsS D.cellS D.fzs fzsL k_mrk k_mrq IOper.gh
theorem okTks_succ {nl : Nat} {j : Jb} {m : Nat} : okTks nl j (m + 1) ↔ okTks nl j m ∧ okTk nl (j.tasks.getD m tk0) = true ∧ (j.tasks.getD m tk0).ask ≤ j.asks ∧ (0 < m → (j.tasks.getD (m - 1) tk0).ask < (j.tasks.getD m tk0).ask) ∧ ((j.tasks.getD m tk0).done = false → j.tasks.length ≤ m + 1 ∧ j.state = 1) := by
  constructor
  · intro h
    exact ⟨fun i hi => h i (by omega), h m (by omega)⟩
  · rintro ⟨h1, h2⟩ i hi
    by_cases e : i = m
    · subst e; exact h2
    · exact h1 i (by omega)
theorem task_F (S : Int) (ls : List (Int × Int)) (p : Int) (t : Tk) : sp_task.F [cfgD S ls p, .agg (tkC t)] = .bool (okTk ls.length t) := by
  simp only [sp_task, cfgOf_cfgD, tkOf_tkC]
theorem task_pre (S : Int) (ls : List (Int × Int)) (p : Int) (t : Tk) : sp_task.pre [cfgD S ls p, .agg (tkC t)] = True := by
  simp only [sp_task, eq_iff_iff, iff_true]; exact ⟨_, t, rfl, isCfg_mk S ls p⟩
set_option maxRecDepth 100000 in
set_option maxHeartbeats 8000000 in
theorem v_job (h1 : T.sp n_coord_task = some sp_task) : Verified T ir_coord_job sp_job := by
  refine Verified.mk ?_
  rintro ds ⟨x, next, es, j, rfl, hx, hf1, hf2⟩
  obtain ⟨S, ls, p, rfl⟩ := isCfg_cfgD hx
  rw [job_F]
  have x1 : sp_task.hx = none := rfl
  have f1 := fun t => task_F S ls p t
  have p1 := fun t => task_pre S ls p t
  have hbad := jobB_no (S := S) (nl := ls.length) (next := next) (j := j)
  have hgood := jobB_yes (S := S) (nl := ls.length) (next := next) (j := j)
  generalize jobB S ls.length next j = R at hbad hgood ⊢
  obtain ⟨n, state, tasks, asked, asks, age⟩ := j
  simp only at hf1 hf2
  simp only [cfgD] at f1 p1
  simp (implicitDefEqProofs := false) (maxSteps := 10000000) [ir_coord_job, cfgD, jbC]
  refine ⟨fun h => hbad ?_, fun b1 b2 b3 b4 b5 b6 b7 b8 b9 => ?_⟩
  · intro h'
    obtain ⟨g1, g2, g3, g4, g5, g6, g7, g8, g9, _⟩ := h'
    simp only at g1 g2 g3 g4 g5 g6 g7 g8 g9
    omega
  have htl : tasks.length ≤ 10 := by omega
  refine k_loop (ι := {i : Nat // i ≤ tasks.length ∧ okTks ls.length ⟨n, state, tasks, asked, asks, age⟩ i}) (fun x => ⟨mkTm 155 0 [(3, .own 3 0), (4, .own 4 0), (5, .own 5 0), (58, .fz 8 (tasks.map tkC)), (59, .int .i64 tasks.length), (60, .int .i64 x.1)], [(3, .box [.int .i64 S, .fz 2 (ls.map lbc), .int .i64 p]), (4, .box [.int .i64 next, .fz 6 es]), (5, .box [.int .i64 n, .int .i64 state, .fz 8 (tasks.map tkC), .fz 1 (asked.map ic), .int .i64 asks, .int .i64 age])]⟩)
    (fun x => tasks.length - x.1) [] ⟨0, by omega, fun i hi => by omega⟩ (by simp (implicitDefEqProofs := false) (maxSteps := 10000000)) ?_
  rintro ⟨i, hi, hinv⟩ P hP
  by_cases hil : i < tasks.length
  · have hil' : (i : Int) < tasks.length := by omega
    have hel := elem_map tkC tasks i hil
    have hgd : tasks.getD i tk0 = tasks[i] := by simp [List.getD, hil]
    have hsucc := okTks_succ (nl := ls.length) (j := ⟨n, state, tasks, asked, asks, age⟩) (m := i)
    have hno : ¬ okTks ls.length ⟨n, state, tasks, asked, asks, age⟩ (i + 1) → R = false := fun h => hbad (fun ⟨_, _, _, _, _, _, _, _, _, g, _⟩ => h (fun k hk => g k (by simp only; omega)))
    simp only [hgd] at hsucc
    rw [hsucc] at hno
    have f1' := f1 tasks[i]
    have p1' := p1 tasks[i]
    have hgo : (okTks ls.length ⟨n, state, tasks, asked, asks, age⟩ i ∧ okTk ls.length tasks[i] = true ∧ tasks[i].ask ≤ asks ∧ (0 < i → (tasks.getD (i - 1) tk0).ask < tasks[i].ask) ∧ (tasks[i].done = false → tasks.length ≤ i + 1 ∧ state = 1)) → ∀ s', (∃ σ, St.le σ s' ⟨mkTm 155 0 [(3, .own 3 0), (4, .own 4 0), (5, .own 5 0), (58, .fz 8 (tasks.map tkC)), (59, .int .i64 tasks.length), (60, .int .i64 (i + 1 : Nat))], [(3, .box [.int .i64 S, .fz 2 (ls.map lbc), .int .i64 p]), (4, .box [.int .i64 next, .fz 6 es]), (5, .box [.int .i64 n, .int .i64 state, .fz 8 (tasks.map tkC), .fz 1 (asked.map ic), .int .i64 asks, .int .i64 age])]⟩) → P s' := fun g s' ⟨σ, hs'⟩ => hP s' σ ⟨i + 1, by omega, hsucc.2 g⟩ hs' (by simp only; omega)
    clear hP hsucc f1 p1 hbad hgood
    generalize tasks[i] = t at hel hno f1' p1' hgo
    generalize okTk ls.length t = B at f1' hno hgo
    obtain ⟨t1, t2, t3, t4, t5, t6, t7, t8⟩ := t
    simp only [tkC] at hel f1' p1'
    simp only at hno hgo
    have hri : inR .i64 ((i : Int) + 1) := by simp only [inR]; omega
    have hrl : inR .i64 ((tasks.length : Int) - 1) := by simp only [inR]; omega
    have hne : ¬ tasks = [] := by
      intro e
      subst e
      simp at hil
    cases i with
    | zero =>
      simp (implicitDefEqProofs := false) (maxSteps := 10000000) [ir_coord_job_b0, h1, x1, f1', p1', hil', hil, hne, hel, hri, hrl]
      refine ⟨by grind, by grind, by grind, fun h => hno ?_, fun q1 q2 q3 q4 => ⟨by simp only [inR]; omega, hgo ⟨hinv, q1, q2, fun h => by omega, fun h => ⟨by have := q3 h; omega, q4 h⟩⟩ _ ⟨[], by simp (implicitDefEqProofs := false) (maxSteps := 10000000)⟩⟩⟩
      rintro ⟨_, g1, g2, _, g4⟩
      rcases h with ((h | h) | ⟨h, h'⟩) | ⟨h, h'⟩
      · rw [g1] at h; cases h
      · omega
      · have := (g4 h).1; omega
      · exact h' (g4 h).2
    | succ i =>
      have hil3 : i < tasks.length := by omega
      have hel3 := elem_map tkC tasks i hil3
      have hgd3 : tasks.getD (i + 1 - 1) tk0 = tasks[i] := by simp [List.getD, hil3]
      rw [hgd3] at hno hgo
      generalize tasks[i] = u at hel3 hno hgo
      obtain ⟨u1, u2, u3, u4, u5, u6, u7, u8⟩ := u
      simp only [tkC] at hel3
      simp only at hno hgo
      have hj1 : ((i : Int) + 1 - 1) = i := by omega
      have hjs : (i : Int) + 1 < tasks.length := by omega
      have hi0 : (0 : Int) < (i : Int) + 1 := by omega
      simp (implicitDefEqProofs := false) (maxSteps := 10000000) [ir_coord_job_b0, h1, x1, f1', p1', hil', hil, hil3, hjs, hi0, hj1, hne, hel, hel3, hri, hrl]
      have ri : inR .i64 (i : Int) := by simp only [inR]; omega
      refine ⟨by omega, fun q1 q2 => ⟨⟨q1, q2⟩, ri⟩, by grind, by grind, by grind, fun h => hno ?_, fun q1 q2 q3 q4 q5 => ⟨by simp only [inR]; omega, hgo ⟨hinv, q1, q2, fun _ => q3, fun h => ⟨by have := q4 h; omega, q5 h⟩⟩ _ ⟨[], by simp (implicitDefEqProofs := false) (maxSteps := 10000000)⟩⟩⟩
      rintro ⟨_, g1, g2, g3, g4⟩
      rcases h with (((h | h) | h) | ⟨h, h'⟩) | ⟨h, h'⟩
      · rw [g1] at h; cases h
      · omega
      · have := g3 (by omega); omega
      · have := (g4 h).1; omega
      · exact h' (g4 h).2
  · have hin : i = tasks.length := by omega
    subst hin
    clear hP f1 p1
    simp (implicitDefEqProofs := false) (maxSteps := 10000000) [ir_coord_job_b0, ir_coord_job_r3]
    refine k_loop (ι := {i : Nat // i ≤ asked.length ∧ okUpto S asked i}) (fun x => ⟨mkTm 155 0 [(3, .own 3 0), (4, .own 4 0), (5, .own 5 0), (117, .fz 1 (asked.map ic)), (118, .int .i64 asked.length), (119, .int .i64 x.1)], [(3, .box [.int .i64 S, .fz 2 (ls.map lbc), .int .i64 p]), (4, .box [.int .i64 next, .fz 6 es]), (5, .box [.int .i64 n, .int .i64 state, .fz 8 (tasks.map tkC), .fz 1 (asked.map ic), .int .i64 asks, .int .i64 age])]⟩)
      (fun x => asked.length - x.1) [] ⟨0, by omega, fun i hi => by omega⟩ (by simp (implicitDefEqProofs := false) (maxSteps := 10000000)) ?_
    rintro ⟨k, hk, hu⟩ Q hQ
    by_cases hkl : k < asked.length
    · have hkl' : (k : Int) < asked.length := by omega
      have hel := elem_map ic asked k hkl
      have hgd : asked.getD k 0 = asked[k] := by simp [List.getD, hkl]
      have hsucc := okUpto_succ (S := S) (l := asked) (j := k)
      have hno : ¬ okUpto S asked (k + 1) → R = false := fun h => hbad (fun ⟨_, _, _, _, _, _, _, _, _, _, g, _⟩ => h (fun q hq => g q (by simp only; omega)))
      rw [hgd] at hsucc
      rw [hsucc] at hno
      have hgo : (okUpto S asked k ∧ 0 ≤ asked[k] ∧ asked[k] < S ∧ (0 < k → asked.getD (k - 1) 0 < asked[k])) → ∀ s', (∃ σ, St.le σ s' ⟨mkTm 155 0 [(3, .own 3 0), (4, .own 4 0), (5, .own 5 0), (117, .fz 1 (asked.map ic)), (118, .int .i64 asked.length), (119, .int .i64 (k + 1 : Nat))], [(3, .box [.int .i64 S, .fz 2 (ls.map lbc), .int .i64 p]), (4, .box [.int .i64 next, .fz 6 es]), (5, .box [.int .i64 n, .int .i64 state, .fz 8 (tasks.map tkC), .fz 1 (asked.map ic), .int .i64 asks, .int .i64 age])]⟩) → Q s' := fun g s' ⟨σ, hs'⟩ => hQ s' σ ⟨k + 1, by omega, hsucc.2 g⟩ hs' (by simp only; omega)
      clear hQ hsucc hbad hgood
      generalize asked[k] = v at hel hno hgo
      have hrk : inR .i64 ((k : Int) + 1) := by simp only [inR]; omega
      have hne : ¬ asked = [] := by
        intro e
        subst e
        simp at hkl
      cases k with
      | zero =>
        simp (implicitDefEqProofs := false) (maxSteps := 10000000) [ir_coord_job_b1, hkl', hkl, hne, hel, hrk, ic]
        refine ⟨fun h => hno (fun ⟨_, g1, g2, _⟩ => by omega), fun q1 q2 => ⟨by simp only [inR]; omega, hgo ⟨hu, q1, q2, fun h => by omega⟩ _ ⟨[], by simp (implicitDefEqProofs := false) (maxSteps := 10000000) [ic]⟩⟩⟩
      | succ k =>
        have hkl3 : k < asked.length := by omega
        have hel3 := elem_map ic asked k hkl3
        have hgd3 : asked.getD (k + 1 - 1) 0 = asked[k] := by simp [List.getD, hkl3]
        rw [hgd3] at hno hgo
        generalize asked[k] = u at hel3 hno hgo
        have hj1 : ((k : Int) + 1 - 1) = k := by omega
        have hjs : (k : Int) + 1 < asked.length := by omega
        have hi0 : (0 : Int) < (k : Int) + 1 := by omega
        simp (implicitDefEqProofs := false) (maxSteps := 10000000) [ir_coord_job_b1, hkl', hkl, hkl3, hjs, hi0, hj1, hne, hel, hel3, hrk, ic]
        have ri : inR .i64 (k : Int) := by simp only [inR]; omega
        refine ⟨by omega, fun q1 q2 => ⟨⟨q1, q2⟩, ri⟩, fun h => hno (fun ⟨_, g1, g2, g3⟩ => by have := g3 (by omega); omega), fun q1 q2 q3 => ⟨by simp only [inR]; omega, hgo ⟨hu, q1, q2, fun _ => q3⟩ _ ⟨[], by simp (implicitDefEqProofs := false) (maxSteps := 10000000) [ic]⟩⟩⟩
    · have hkn : k = asked.length := by omega
      subst hkn
      clear hQ
      simp (implicitDefEqProofs := false) (maxSteps := 10000000) [ir_coord_job_b1, ir_coord_job_r2]
      by_cases hh : state = 3 ↔ 0 < asked.length
      · rw [hgood ⟨b1, b2, b3, b4, b5, b6, htl, b8, b9, hinv, hu, hh⟩]
        by_cases h3 : state = 3
        · have := hh.1 h3
          simp [h3, this]
        · have : ¬ 0 < asked.length := fun h => h3 (hh.2 h)
          have e0 : asked.length = 0 := by omega
          simp [h3, e0]
      · rw [hbad (fun ⟨_, _, _, _, _, _, _, _, _, _, _, g⟩ => hh g)]
        by_cases h3 : state = 3
        · have : ¬ 0 < asked.length := fun h => hh ⟨fun _ => h, fun _ => h3⟩
          have e0 : asked.length = 0 := by omega
          simp [h3, e0]
        · have : 0 < asked.length := by
            refine Classical.byContradiction fun h => hh ⟨fun h' => absurd h' h3, fun h' => absurd h' h⟩
          simp [h3, this]
theorem okJbs_succ {S : Int} {nl : Nat} {next : Int} {l : List Jb} {m : Nat} : okJbs S nl next l (m + 1) ↔ okJbs S nl next l m ∧ okJob S nl next (l.getD m jb0) ∧ (0 < m → (l.getD (m - 1) jb0).n < (l.getD m jb0).n) := by
  constructor
  · intro h
    exact ⟨fun i hi => h i (by omega), h m (by omega)⟩
  · rintro ⟨h1, h2⟩ i hi
    by_cases e : i = m
    · subst e; exact h2
    · exact h1 i (by omega)
set_option maxRecDepth 100000 in
set_option maxHeartbeats 8000000 in
theorem v_CCheck (h1 : T.sp n_label_Check = some sp_Check) (h2 : T.sp n_coord_job = some sp_job) : Verified T ir_coord_Check sp_CCheck := by
  refine Verified.mk ?_
  rintro ds ⟨x, next, l, rfl, hx, hl, hf⟩
  obtain ⟨S, ls, p, rfl⟩ := isCfg_cfgD hx
  rw [ccheck_F]
  have x1 : sp_Check.hx = none := rfl
  have x2 : sp_job.hx = none := rfl
  have f1 : sp_Check.F [cfgD S ls p] = .int .i64 (check S ls p) := by simp only [sp_Check, cfgOf_cfgD]
  have p1 : sp_Check.pre [cfgD S ls p] = True := by
    simp only [sp_Check, eq_iff_iff, iff_true]; exact ⟨_, rfl, isCfg_mk S ls p⟩
  have f2 := fun j => job_F S ls p next (l.map jbC) j
  have p2 := fun j (h : jbFew j) => job_pre S ls p next (l.map jbC) h
  rw [chkD]
  simp only [cfgD, dkC] at f1 p1 f2 p2 ⊢
  by_cases hc : check S ls p = 0
  · rw [if_neg (by simp [hc])]
    rw [hc] at f1
    by_cases hn : next < 1 ∨ 1048577 < next ∨ 6 < l.length
    · rw [if_pos hn]
      simp (implicitDefEqProofs := false) (maxSteps := 10000000) [ir_coord_Check, h1, x1, f1, p1]
      intro a1 a2 a3
      exfalso
      omega
    · rw [if_neg hn]
      have hno := jbsI_no (S := S) (nl := ls.length) (next := next) (l := l)
      have hyes := jbsI_yes (S := S) (nl := ls.length) (next := next) (l := l)
      generalize jbsI S ls.length next l = R at hno hyes ⊢
      have n1 : ¬ next < 1 := by omega
      have n2 : ¬ 1048577 < next := by omega
      have n3 : ¬ (6 : Int) < l.length := by omega
      simp (implicitDefEqProofs := false) (maxSteps := 10000000) [ir_coord_Check, h1, x1, f1, p1, n1, n2, n3]
      refine k_loop (ι := {i : Nat // i ≤ l.length ∧ okJbs S ls.length next l i}) (fun x => ⟨mkTm 57 0 [(2, .own 2 0), (3, .own 3 0), (28, .fz 6 (l.map jbC)), (29, .int .i64 l.length), (30, .int .i64 x.1)], [(2, .box [.int .i64 S, .fz 2 (ls.map lbc), .int .i64 p]), (3, .box [.int .i64 next, .fz 6 (l.map jbC)])]⟩)
        (fun x => l.length - x.1) [] ⟨0, by omega, fun i hi => by omega⟩ (by simp (implicitDefEqProofs := false) (maxSteps := 10000000)) ?_
      rintro ⟨i, hi, hinv⟩ P hP
      by_cases hil : i < l.length
      · have hil' : (i : Int) < l.length := by omega
        have hel := elem_map jbC l i hil
        have hgd : l.getD i jb0 = l[i] := by simp [List.getD, hil]
        have hsucc := okJbs_succ (S := S) (nl := ls.length) (next := next) (l := l) (m := i)
        have hbad : ¬ okJbs S ls.length next l (i + 1) → R = 9 := fun h => hno fun g => h fun k hk => g k (by omega)
        rw [hgd] at hsucc
        rw [hsucc] at hbad
        have f2' := f2 l[i]
        have p2' := p2 l[i] (hf _ (List.getElem_mem hil))
        have hgo : (okJbs S ls.length next l i ∧ okJob S ls.length next l[i] ∧ (0 < i → (l.getD (i - 1) jb0).n < l[i].n)) → ∀ s', (∃ σ, St.le σ s' ⟨mkTm 57 0 [(2, .own 2 0), (3, .own 3 0), (28, .fz 6 (l.map jbC)), (29, .int .i64 l.length), (30, .int .i64 (i + 1 : Nat))], [(2, .box [.int .i64 S, .fz 2 (ls.map lbc), .int .i64 p]), (3, .box [.int .i64 next, .fz 6 (l.map jbC)])]⟩) → P s' := fun g s' ⟨σ, hs'⟩ => hP s' σ ⟨i + 1, by omega, hsucc.2 g⟩ hs' (by simp only; omega)
        clear hP hsucc f1 p1 f2 p2 hno hyes hf
        generalize l[i] = j at hel f2' p2' hbad hgo
        rw [← jobB_iff] at hbad hgo
        generalize jobB S ls.length next j = B at f2' hbad hgo
        obtain ⟨y1, y2, y3, y4, y5, y6⟩ := j
        simp only [jbC] at hel f2' p2'
        simp only at hbad hgo
        have hri : inR .i64 ((i : Int) + 1) := by simp only [inR]; omega
        have hne : ¬ l = [] := by
          intro e
          subst e
          simp at hil
        cases i with
        | zero =>
          simp (implicitDefEqProofs := false) (maxSteps := 10000000) [ir_coord_Check_b0, h2, x2, f2', p2', hil', hil, hne, hel, hri]
          refine ⟨fun h => (hbad (fun ⟨_, g, _⟩ => by rw [g] at h; cases h)).symm, fun q1 => ⟨by simp only [inR]; omega, hgo ⟨hinv, q1, fun h => by omega⟩ _ ⟨[], by simp (implicitDefEqProofs := false) (maxSteps := 10000000)⟩⟩⟩
        | succ i =>
          have hil3 : i < l.length := by omega
          have hel3 := elem_map jbC l i hil3
          have hgd3 : l.getD (i + 1 - 1) jb0 = l[i] := by simp [List.getD, hil3]
          rw [hgd3] at hbad hgo
          generalize l[i] = u at hel3 hbad hgo
          obtain ⟨u1, u2, u3, u4, u5, u6⟩ := u
          simp only [jbC] at hel3
          simp only at hbad hgo
          have hj1 : ((i : Int) + 1 - 1) = i := by omega
          have hjs : (i : Int) + 1 < l.length := by omega
          have hi0 : (0 : Int) < (i : Int) + 1 := by omega
          simp (implicitDefEqProofs := false) (maxSteps := 10000000) [ir_coord_Check_b0, h2, x2, f2', p2', hil', hil, hil3, hjs, hi0, hj1, hne, hel, hel3, hri]
          have ri : inR .i64 (i : Int) := by simp only [inR]; omega
          refine ⟨by omega, fun q1 => ⟨q1, ri⟩, fun h => (hbad (fun ⟨_, g, g2⟩ => ?_)).symm, fun q1 q2 => ⟨by simp only [inR]; omega, hgo ⟨hinv, q1, fun _ => q2⟩ _ ⟨[], by simp (implicitDefEqProofs := false) (maxSteps := 10000000)⟩⟩⟩
          rcases h with h | h
          · rw [g] at h; cases h
          · have := g2 (by omega); omega
      · have hin : i = l.length := by omega
        subst hin
        rw [hyes hinv]
        simp (implicitDefEqProofs := false) (maxSteps := 10000000) [ir_coord_Check_b0, ir_coord_Check_r1]
  · rw [if_pos hc]
    simp (implicitDefEqProofs := false) (maxSteps := 10000000) [ir_coord_Check, h1, x1, f1, p1, hc]
end
end Go.Proofs.YtchbnpjegacobaaDoor
