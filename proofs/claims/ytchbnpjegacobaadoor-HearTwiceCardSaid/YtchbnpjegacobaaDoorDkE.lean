/-
  What a tick does to a desk, job by job. No conditions but those that each theorem names.
-/
import Derived.Test.YtchbnpjegacobaaDoorDkJ
set_option linter.unusedVariables false
set_option linter.unusedSimpArgs false
namespace Go.Proofs.YtchbnpjegacobaaDoor
open Go Go.Vcg

/-- What a tick leaves of a job. -/
def tickJ (P : Int) (j : Jb) : Option Jb := if P ≤ j.age + 1 then (if j.state = 3 then some ⟨j.n, j.state, j.tasks, j.asked, j.asks, 0⟩ else none) else some (aged j)
theorem tickJ_n {P : Int} {j x : Jb} (h : tickJ P j = some x) : x.n = j.n ∧ x.state = j.state := by
  unfold tickJ at h
  split at h
  · split at h
    · cases h; exact ⟨rfl, rfl⟩
    · cases h
  · cases h; exact ⟨rfl, rfl⟩
/-- One job's share in a tick. -/
theorem tick_one (h : Hd) {w : Wd} {A R : List Jb} {x : Jb} (hw : w.js = A ++ x :: R) (hA : ∀ y ∈ A, y.n ≠ x.n) : (tickW h w x).js = A ++ (tickJ h.P x).toList ++ R ∧ (tickW h w x).next = w.next ∧ (tickW h w x).su = w.su ∧ (tickW h w x).co = w.co := by
  have hp := place_mid (R := R) hA
  simp only [tickW, hw, hp, Int.toNat_natCast, jAt_mid]
  unfold tickI tickJ
  split
  · unfold lateW
    split
    · rename_i h3
      have h3' : x.state = 3 := h3
      rw [if_pos h3']
      refine ⟨?_, rfl, rfl, rfl⟩
      simp only [ageW, hw, set_mid, aged, Option.toList_some]
      simp
    · rename_i h3
      have h3' : ¬ x.state = 3 := h3
      rw [if_neg h3']
      split
      · exact ⟨by simp only [ageW, hw, set_mid, del_mid, Option.toList_none, List.append_nil], rfl, rfl, rfl⟩
      · split
        · exact ⟨by simp only [ageW, hw, set_mid, del_mid, Option.toList_none, List.append_nil], rfl, rfl, rfl⟩
        · exact ⟨by simp only [ageW, hw, set_mid, del_mid, Option.toList_none, List.append_nil], rfl, rfl, rfl⟩
  · exact ⟨by simp only [ageW, hw, set_mid, Option.toList_some]; simp, rfl, rfl, rfl⟩
theorem tick_js (h : Hd) (n : Int) (js : List Jb) (hu : js.Pairwise (fun a b => a.n < b.n)) : ∀ k, k ≤ js.length →
    ((js.take k).foldl (tickW h) (wdN n js)).js = (js.take k).filterMap (tickJ h.P) ++ js.drop k ∧ ((js.take k).foldl (tickW h) (wdN n js)).next = n ∧ ((js.take k).foldl (tickW h) (wdN n js)).su = 0 ∧ ((js.take k).foldl (tickW h) (wdN n js)).co = 0
  | 0, _ => ⟨by simp [wdN], rfl, rfl, rfl⟩
  | k + 1, hk => by
    obtain ⟨h1, h2, h3, h4⟩ := tick_js h n js hu k (by omega)
    have hl : k < js.length := by omega
    rw [List.drop_eq_getElem_cons hl] at h1
    rw [← List.take_append_getElem hl, List.foldl_append, List.filterMap_append]
    simp only [List.foldl_cons, List.foldl_nil]
    have hA : ∀ y ∈ (js.take k).filterMap (tickJ h.P), y.n ≠ js[k].n := by
      intro y hy
      obtain ⟨x, hx, e⟩ := List.mem_filterMap.1 hy
      rw [(tickJ_n e).1]
      obtain ⟨t, ht, rfl⟩ := List.getElem_of_mem hx
      have htk : t < k := by simp at ht; omega
      rw [List.getElem_take]
      have := List.pairwise_iff_getElem.1 hu t k (by omega) hl htk
      omega
    obtain ⟨g1, g2, g3, g4⟩ := tick_one h h1 hA
    refine ⟨?_, g2.trans h2, g3.trans h3, g4.trans h4⟩
    rw [g1]
    congr 2
def tickD (d : Int × List Jb) : Int × List Jb := (d.1, d.2.filterMap (tickJ 3))
theorem tick2 {S : Int} (hS : 1 ≤ S ∧ S ≤ 4) {d : Int × List Jb} (hd : DkO (hd2 S 1 0) d) : ∃ ms rs rp, tickT (hd2 S 1 0) d.1 d.2 = (⟨d.1, 0, 0, (tickD d).2, ms, rs, rp⟩, 0) := by
  have hb := beg2 hS (l := 1) (me := 0) (by omega) (by omega) hd
  obtain ⟨h1, h2, h3, h4⟩ := tick_js (hd2 S 1 0) d.1 d.2 hd.up d.2.length (Nat.le_refl _)
  rw [List.take_length, List.drop_length, List.append_nil] at h1
  rw [List.take_length] at h2 h3 h4
  unfold tickT
  rw [if_pos hb]
  generalize d.2.foldl (tickW (hd2 S 1 0)) (wdN d.1 d.2) = w at h1 h2 h3 h4
  obtain ⟨w1, w2, w3, w4, w5', w6, w7'⟩ := w
  simp only at h1 h2 h3 h4
  subst h1 h2 h3 h4
  exact ⟨w5', w6, w7', rfl⟩
theorem tickD_ok {S : Int} {d : Int × List Jb} (hd : DkO (hd2 S 1 0) d) : DkO (hd2 S 1 0) (tickD d) := by
  refine ⟨hd.n1, hd.n2, ?_, fun j hj => ?_, ?_⟩
  · have h1 := List.length_filterMap_le (tickJ 3) d.2
    have h2 := hd.jl
    simp only [tickD]; omega
  · obtain ⟨x, hx, e⟩ := List.mem_filterMap.1 hj
    have ho := hd.ok x hx
    unfold tickJ at e
    split at e
    · split at e
      · cases e
        exact ⟨ho.n1, ho.n2, by simp only; omega, by simp only; omega, ho.s1, ho.s2, ho.tl, ho.q1, ho.q2, ho.ts, ho.sk, ho.te⟩
      · cases e
    · cases e
      have := ho.a1
      exact ⟨ho.n1, ho.n2, by simp only [aged]; omega, by simp only [aged]; omega, ho.s1, ho.s2, ho.tl, ho.q1, ho.q2, ho.ts, ho.sk, ho.te⟩
  · simp only [tickD]
    rw [List.pairwise_filterMap]
    refine hd.up.imp fun {a b} hab => ?_
    intro x hx y hy
    rw [(tickJ_n hx).1, (tickJ_n hy).1]; exact hab
def toldN (l : List Jb) : Nat := l.countP fun j => decide (j.state = 3)
theorem tick_told : ∀ l : List Jb, toldN (l.filterMap (tickJ 3)) = toldN l
  | [] => rfl
  | j :: l => by
    have ih := tick_told l
    simp only [toldN] at ih ⊢
    rw [List.filterMap_cons]
    cases e : tickJ 3 j with
    | none =>
      simp only
      rw [ih, List.countP_cons]
      unfold tickJ at e
      split at e
      · split at e
        · cases e
        · rename_i h; simp [h]
      · cases e
    | some x =>
      simp only
      rw [List.countP_cons, List.countP_cons, ih, (tickJ_n e).2]
/-- Who is not told and still there is one tick older, and not too old. -/
theorem tick_old {l : List Jb} {j : Jb} (hj : j ∈ l.filterMap (tickJ 3)) (hs : j.state ≠ 3) : j.age < 3 ∧ ∃ x ∈ l, x.state ≠ 3 ∧ j.age = x.age + 1 := by
  obtain ⟨x, hx, e⟩ := List.mem_filterMap.1 hj
  have h2 := (tickJ_n e).2
  unfold tickJ at e
  split at e
  · split at e
    · rename_i h3; exact absurd (h2.trans h3) hs
    · cases e
  · cases e
    exact ⟨by simp only [aged]; omega, x, hx, hs, rfl⟩
theorem tick_three {S : Int} {d : Int × List Jb} (hd : DkO (hd2 S 1 0) d) : (∀ j ∈ (tickD (tickD (tickD d))).2, j.state = 3) ∧ (tickD (tickD (tickD d))).2.length = toldN d.2 := by
  have h1 : ∀ j ∈ (tickD (tickD (tickD d))).2, j.state = 3 := by
    intro j hj
    by_cases e : j.state = 3
    · exact e
    · exfalso
      obtain ⟨a1, x, hx, ex, a2⟩ := tick_old hj e
      obtain ⟨b1, y, hy, ey, b2⟩ := tick_old hx ex
      obtain ⟨c1, z, hz, ez, c2⟩ := tick_old hy ey
      have := (hd.ok z hz).a1
      omega
  refine ⟨h1, ?_⟩
  have h2 : toldN (tickD (tickD (tickD d))).2 = toldN d.2 := by
    simp only [tickD, tick_told]
  rw [← h2, toldN, List.countP_eq_length.2]
  intro j hj
  simpa using h1 j hj
theorem tick2_F (S : Int) (d : Int × List Jb) : sp_Tick.F [cfgD S ls2 3, .int .i64 1, .int .i64 0, dkD d] = .tup [.agg (trnC (tickT (hd2 S 1 0) d.1 d.2).1), .int .i64 (tickT (hd2 S 1 0) d.1 d.2).2] := tick_F (hd2 S 1 0) d.1 d.2
theorem tick2_pre (S : Int) {d : Int × List Jb} (hd : fewD d) : sp_Tick.pre [cfgD S ls2 3, .int .i64 1, .int .i64 0, dkD d] = True := tick_pre (hd2 S 1 0) d.1 hd.1 hd.2
def sp_tells : Sp := { pre := fun ds => ds = [], F := fun _ => .bool true }
section
variable {T : Tb}
attribute [local simp] k_seq k_block k_skip k_reg k_alt k_cond k_exit k_ret kf_nil kf_seq_n kf_seq_e kf_seq_r kf_blk_n kf_blk_e kf_blk_r kf_lp_n kf_lp_e kf_lp_r kf_cut_n kf_cut_e kf_cut_r mkTm VCops VCalt istep act gd applyE wrapD Opd.ev get_mk set_mk set_mk0 tget16 tset16 tget_0 tset_0 tget_1 tset_1 tget_2 tset_2 tget_3 tset_3 tget_4 tset_4 tget_5 tset_5 tget_6 tset_6 tget_7 tset_7 tget_8 tset_8 tget_9 tset_9 tget_10 tset_10 tget_11 tset_11 tget_12 tset_12 tget_13 tset_13 tget_14 tset_14 tget_15 tset_15 D.un D.gu gus IOp.opds binD fnPost getRes IRes.get oneRes D.out outL D.clos closL D.norow norowL D.lv lvL D.scal scalL D.cells D.cell D.cell' St.lk obPut obDel List.lookup cut pickD splice fillParts fillRows elem_cons newsOf D.pl D.forget forgetL Ob.forget forgetO eqCells sg leD leDL leOb apartK St.le D.keys keysL D.rows rowsL obKeys addKeys reach pos D.ren renL Ob.ren inM outM inObs outObs goneK apartN okNames_eq okNms obNms namesOK_nil namesOK_cons freeOK_nil freeOK_cons D.frz frzL Ob.frz frzO St.frz forgetLs dropObs putObs hcall freeOf keeps baseN shD isShift shMax k_bad VCopsG frz_nil actx actc cnum vwCut St.frzT St.opnT St.clsT D.opn opnL Ob.opn opnO VCou VCcx St.oneS D.objI D.objK scrL D.scr St.opnS St.clsS D.cellS D.fzs fzsL k_mrk k_mrq IOper.gh
set_option maxRecDepth 100000 in
set_option maxHeartbeats 4000000 in
theorem v_tells (h1 : T.sp n_reredoskeep_two = some sp_two) (h2 : T.sp n_coord_Check = some sp_CCheck) : Verified T ir_reredoskeep_coordTells sp_tells := by
  refine Verified.mk ?_
  rintro ds rfl
  have hF : sp_tells.F [] = .bool true := rfl
  rw [hF]
  have x1 : sp_two.hx = none := rfl
  have x2 : sp_CCheck.hx = none := rfl
  have f1 : sp_two.F [.int .i64 0] = cfgD 1 ls2 3 := rfl
  have p1 := two_pre (s := 0) (by simp only [inR]; omega)
  have f5 := chk2_F 1 0 []
  rw [chk2_nine (by omega)] at f5
  have p5 := chk2_pre 1 (d := (0, [])) ⟨by simp, by simp⟩
  simp only [cfgD, dkD, dkC, List.map_nil] at f1 p1 f5 p5 ⊢
  simp (implicitDefEqProofs := false) (maxSteps := 10000000) [ir_reredoskeep_coordTells, h1, x1, f1, p1, h2, x2, f5, p5]
end
end Go.Proofs.YtchbnpjegacobaaDoor
