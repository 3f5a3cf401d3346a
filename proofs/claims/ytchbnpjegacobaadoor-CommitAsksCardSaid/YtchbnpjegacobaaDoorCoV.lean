/-
  A tick at a coordinator: what it does. Conditions: those of each specification's 'pre', and that the functions that are called are what theirs say.
-/
import Derived.Test.YtchbnpjegacobaaDoorCoT
set_option linter.unusedVariables false
set_option linter.unusedSimpArgs false
namespace Go.Proofs.YtchbnpjegacobaaDoor
open Go Go.Vcg

def aged (j : Jb) : Jb := ⟨j.n, j.state, j.tasks, j.asked, j.asks, j.age + 1⟩
def ageW (w : Wd) (i : Nat) (j : Jb) : Wd := ⟨w.next, w.su, w.co, w.js.set i (aged j), w.ms, w.rs, w.rp⟩
noncomputable def tickI (h : Hd) (w : Wd) (i : Nat) (j : Jb) : Wd := if h.P ≤ j.age + 1 then lateW h (ageW w i j) i (aged j) else ageW w i j
noncomputable def tickW (h : Hd) (w : Wd) (j : Jb) : Wd := tickI h w (placeJ w.js j.n).toNat (jAt w.js (placeJ w.js j.n).toNat)
/-- A tick: what the turn says, and the code. -/
noncomputable def tickT (h : Hd) (next : Int) (js : List Jb) : Wd × Int :=
  if begE h next js = 0 then (js.foldl (tickW h) (wdN next js), 0) else (wd0, begE h next js)
noncomputable def sp_Tick : Sp := {
  pre := fun ds => ∃ (h : Hd) (next : Int) (js : List Jb), ds = [cfgD h.S h.ls h.P, .int .i64 h.l, .int .i64 h.me, .agg (dkC next js)] ∧ js.length ≤ 1000 ∧ ∀ j ∈ js, fewJ j
  F := fun
    | [c, .int _ l, .int _ me, .agg [.int _ next, js]] => .tup [.agg (trnC (tickT ⟨(cfgOf c).1, (cfgOf c).2.1, (cfgOf c).2.2, l, me⟩ next (lsOf jbOf js)).1), .int .i64 (tickT ⟨(cfgOf c).1, (cfgOf c).2.1, (cfgOf c).2.2, l, me⟩ next (lsOf jbOf js)).2]
    | _ => .any }
theorem tick_F (h : Hd) (next : Int) (js : List Jb) : sp_Tick.F [cfgD h.S h.ls h.P, .int .i64 h.l, .int .i64 h.me, .agg (dkC next js)] = .tup [.agg (trnC (tickT h next js).1), .int .i64 (tickT h next js).2] := by
  simp only [sp_Tick, dkC, cfgOf_cfgD, jbs_of]
theorem tick_pre (h : Hd) (next : Int) {js : List Jb} (hl : js.length ≤ 1000) (hf : ∀ j ∈ js, fewJ j) : sp_Tick.pre [cfgD h.S h.ls h.P, .int .i64 h.l, .int .i64 h.me, .agg (dkC next js)] = True := by
  simp only [sp_Tick, eq_iff_iff, iff_true]; exact ⟨h, next, js, rfl, hl, hf⟩

/-- What holds in the midst of a tick, in front of job k. -/
structure TIn (js : List Jb) (k : Nat) (w : Wd) : Prop where
  there : ∀ j ∈ js.drop k, j ∈ w.js
  ts : ∀ j ∈ w.js, okTs j ∧ 0 ≤ j.age ∧ j.age ≤ 1048576 + k
  jl : w.js.length ≤ 6
  ml : w.ms.length ≤ 12 * k
  rl : w.rs.length = 0
  pl : w.rp.length ≤ k
theorem placeJ_mem {js : List Jb} {n : Int} (h : ∃ j ∈ js, j.n = n) : ∃ i : Nat, placeJ js n = i ∧ ∃ hi : i < js.length, (jAt js i).n = n := by
  rcases idxOf_spec (fun x : Jb => decide (x.n = n)) js with ⟨h1, h2⟩ | ⟨i, hi, h1, h2, _⟩
  · obtain ⟨j, hj, hn⟩ := h
    obtain ⟨t, ht, rfl⟩ := List.getElem_of_mem hj
    have := h2 t ht
    simp [hn] at this
  · exact ⟨i, h1, hi, by rw [jAt_eq hi]; simpa using h2⟩
theorem mem_set_or {α : Type} {l : List α} {i : Nat} {x y : α} (h : y ∈ l.set i x) : y = x ∨ y ∈ l := by
  rcases List.mem_or_eq_of_mem_set h with h | h
  · exact Or.inr h
  · exact Or.inl h
theorem mem_delE {α : Type} {l : List α} {i : Nat} {y : α} (h : y ∈ delE l i) : y ∈ l := by
  simp only [delE, List.mem_append] at h
  rcases h with h | h
  · exact List.mem_of_mem_take h
  · exact List.mem_of_mem_drop h
theorem set_keeps {js : List Jb} {i : Nat} (hi : i < js.length) {j x : Jb} (hj : j ∈ js) (hn : j.n ≠ (jAt js i).n) : j ∈ js.set i x := by
  obtain ⟨t, ht, rfl⟩ := List.getElem_of_mem hj
  have hti : t ≠ i := fun e => hn (by subst e; rw [jAt_eq hi])
  have : (js.set i x)[t]'(by simpa using ht) = js[t] := by rw [List.getElem_set_ne (by omega)]
  rw [← this]; exact List.getElem_mem _
theorem del_keeps {js : List Jb} {i : Nat} (hi : i < js.length) {j : Jb} (hj : j ∈ js) (hn : j.n ≠ (jAt js i).n) : j ∈ delE js i := by
  obtain ⟨t, ht, rfl⟩ := List.getElem_of_mem hj
  have hti : t ≠ i := fun e => hn (by subst e; rw [jAt_eq hi])
  simp only [delE, List.mem_append]
  rcases Nat.lt_or_ge t i with h | h
  · left
    have : (js.take i)[t]'(by simp; omega) = js[t] := by simp
    rw [← this]; exact List.getElem_mem _
  · right
    have h2 : t - (i + 1) < (js.drop (i + 1)).length := by simp; omega
    have : (js.drop (i + 1))[t - (i + 1)] = js[t] := by
      rw [List.getElem_drop]; congr 1; omega
    rw [← this]; exact List.getElem_mem _
theorem cmS_len (h : Hd) (j : Jb) (hj : okTs j) : (cmS h j).length ≤ 12 := by
  have := sitesU_length h.S h.l j.tasks
  have := hj.1
  rw [cmS, sitesF, isort_length]; omega
theorem tick_step {h : Hd} {js : List Jb} {k : Nat} {w : Wd} (hk : k < js.length) (hd : ∀ j ∈ js.drop (k + 1), j.n ≠ js[k].n) (hw : TIn js k w) : TIn js (k + 1) (tickW h w js[k]) := by
  have hm : js[k] ∈ js.drop k := by rw [List.drop_eq_getElem_cons hk]; exact List.mem_cons_self
  obtain ⟨i, hp, hi, hn⟩ := placeJ_mem ⟨_, hw.there _ hm, rfl⟩
  have hsub : ∀ j ∈ js.drop (k + 1), j ∈ w.js ∧ j.n ≠ (jAt w.js i).n := by
    intro j hj
    refine ⟨hw.there j ?_, by rw [hn]; exact hd j hj⟩
    rw [List.drop_eq_getElem_cons hk]; exact List.mem_cons_of_mem _ hj
  simp only [tickW, hp, Int.toNat_natCast]
  have hji := hw.ts _ (mem_jAt hi)
  have hset : ∀ x : Jb, okTs x → 0 ≤ x.age → x.age ≤ 1048576 + (k + 1 : Nat) → ∀ j ∈ w.js.set i x, okTs j ∧ 0 ≤ j.age ∧ j.age ≤ 1048576 + (k + 1 : Nat) := by
    intro x h1 h2 h3 j hj
    rcases mem_set_or hj with rfl | hj
    · exact ⟨h1, h2, h3⟩
    · have := hw.ts j hj
      exact ⟨this.1, this.2.1, by omega⟩
  have hage : okTs (aged (jAt w.js i)) ∧ 0 ≤ (aged (jAt w.js i)).age ∧ (aged (jAt w.js i)).age ≤ 1048576 + (k + 1 : Nat) := ⟨hji.1, by simp only [aged]; omega, by simp only [aged]; omega⟩
  have hc := cmS_len h (aged (jAt w.js i)) hage.1
  have hdel : ∀ j ∈ delE (w.js.set i (aged (jAt w.js i))) i, okTs j ∧ 0 ≤ j.age ∧ j.age ≤ 1048576 + (k + 1 : Nat) := by
    intro j hj
    rw [delE_set] at hj
    have := hw.ts j (mem_delE hj)
    exact ⟨this.1, this.2.1, by omega⟩
  have hdt : ∀ j ∈ js.drop (k + 1), j ∈ delE (w.js.set i (aged (jAt w.js i))) i := by
    intro j hj
    rw [delE_set]
    exact del_keeps hi (hsub j hj).1 (hsub j hj).2
  have hdl : (delE (w.js.set i (aged (jAt w.js i))) i).length ≤ 6 := by
    rw [delE_set, delE_length hi]; have := hw.jl; omega
  have h1 := hw.jl
  have h2 := hw.ml
  have h3 := hw.rl
  have h4 := hw.pl
  unfold tickI
  split
  · unfold lateW
    split
    · refine ⟨fun j hj => ?_, fun j hj => ?_, ?_, ?_, h3, ?_⟩
      · simp only [ageW, List.set_set]
        exact set_keeps hi (hsub j hj).1 (hsub j hj).2
      · simp only [ageW, List.set_set] at hj
        exact hset ⟨(aged (jAt w.js i)).n, (aged (jAt w.js i)).state, (aged (jAt w.js i)).tasks, (aged (jAt w.js i)).asked, (aged (jAt w.js i)).asks, 0⟩ hage.1 (by simp only; omega) (by simp only; omega) j hj
      · simp [ageW]; exact h1
      · have := hage.1.2.1
        simp only [ageW, List.length_append, List.length_map]; omega
      · simp only [ageW]; omega
    · split
      · exact ⟨hdt, hdel, hdl, by simp only [ageW, List.length_append, List.length_map]; omega, h3, by simp only [ageW, List.length_append, List.length_cons, List.length_nil]; omega⟩
      · split
        · exact ⟨hdt, hdel, hdl, by simp only [ageW, List.length_append, List.length_map]; omega, h3, by simp only [ageW, List.length_append, List.length_cons, List.length_nil]; omega⟩
        · exact ⟨hdt, hdel, hdl, by simp only [ageW, List.length_append, List.length_map]; omega, h3, by simp only [ageW]; omega⟩
  · refine ⟨fun j hj => ?_, fun j hj => ?_, ?_, ?_, h3, ?_⟩
    · exact set_keeps hi (hsub j hj).1 (hsub j hj).2
    · exact hset _ hage.1 hage.2.1 hage.2.2 j hj
    · simp [ageW]; exact h1
    · simp only [ageW]; omega
    · simp only [ageW]; omega
theorem okJbs_lt {S : Int} {nl : Nat} {next : Int} {js : List Jb} (h : okJbs S nl next js js.length) {a : Nat} : ∀ b, a < b → (hb : b < js.length) → (jAt js a).n < (jAt js b).n
  | 0, h1, _ => by omega
  | b + 1, h1, hb => by
    have h2 := (h (b + 1) hb).2 (by omega)
    simp only [Nat.add_sub_cancel] at h2
    by_cases e : a = b
    · subst e; exact h2
    · have := okJbs_lt h (a := a) b (by omega) (by omega)
      simp only [jAt] at this ⊢
      omega
theorem okJbs_ne {S : Int} {nl : Nat} {next : Int} {js : List Jb} (h : okJbs S nl next js js.length) {k : Nat} (hk : k < js.length) : ∀ j ∈ js.drop (k + 1), j.n ≠ js[k].n := by
  intro j hj
  obtain ⟨t, ht, rfl⟩ := List.getElem_of_mem hj
  rw [List.getElem_drop]
  have hb : k + 1 + t < js.length := by simp at ht; omega
  have := okJbs_lt h (a := k) (k + 1 + t) (by omega) hb
  rw [jAt_eq hk, jAt_eq hb] at this
  omega
theorem tick_at {h : Hd} {next : Int} {js : List Jb} (hb : begE h next js = 0) : ∀ k, k ≤ js.length → TIn js k ((js.take k).foldl (tickW h) (wdN next js))
  | 0, _ => by
    obtain ⟨b1, b2, b3, b4, b5, b6, b7, b8, b9⟩ := beg_ok hb
    obtain ⟨c1, c2, c3, c4, c5, c6⟩ := check_ok b1
    refine ⟨fun j hj => by simpa [wdN] using hj, fun j hj => ?_, by simpa [wdN] using b4, by simp [wdN], by simp [wdN], by simp [wdN]⟩
    simp only [List.take_zero, List.foldl_nil, wdN] at hj
    obtain ⟨t, ht, rfl⟩ := List.getElem_of_mem hj
    have hj2 := okJbs_at b5 ht
    rw [jAt_eq ht] at hj2
    exact ⟨okJob_ts (by omega) c2 hj2, hj2.2.2.1, by have := hj2.2.2.2.1; omega⟩
  | k + 1, hk => by
    have hb5 := (beg_ok hb).2.2.2.2.1
    rw [← List.take_append_getElem (by omega : k < js.length), List.foldl_append]
    simp only [List.foldl_cons, List.foldl_nil]
    exact tick_step (by omega) (okJbs_ne hb5 (by omega)) (tick_at hb k (by omega))

section
variable {T : Tb}
attribute [local simp] k_seq k_block k_skip k_reg k_alt k_cond k_exit k_ret kf_nil kf_seq_n kf_seq_e kf_seq_r kf_blk_n kf_blk_e kf_blk_r kf_lp_n kf_lp_e kf_lp_r kf_cut_n kf_cut_e kf_cut_r mkTm VCops VCalt istep act gd applyE wrapD Opd.ev get_mk set_mk set_mk0 tget16 tset16 tget_0 tset_0 tget_1 tset_1 tget_2 tset_2 tget_3 tset_3 tget_4 tset_4 tget_5 tset_5 tget_6 tset_6 tget_7 tset_7 tget_8 tset_8 tget_9 tset_9 tget_10 tset_10 tget_11 tset_11 tget_12 tset_12 tget_13 tset_13 tget_14 tset_14 tget_15 tset_15 D.un D.gu gus IOp.opds binD fnPost getRes IRes.get oneRes D.out outL D.clos closL D.norow norowL D.lv lvL D.scal scalL D.cells D.cell D.cell' St.lk obPut obDel List.lookup cut pickD splice fillParts fillRows elem_cons newsOf D.pl D.forget forgetL Ob.forget forgetO eqCells sg leD leDL leOb apartK St.le D.keys keysL D.rows rowsL obKeys addKeys reach pos D.ren renL Ob.ren inM outM inObs outObs goneK apartN okNames_eq okNms obNms namesOK_nil namesOK_cons freeOK_nil freeOK_cons D.frz frzL Ob.frz frzO St.frz forgetLs dropObs putObs hcall freeOf keeps baseN shD isShift shMax k_bad VCopsG frz_nil actx actc cnum vwCut St.frzT St.opnT St.clsT D.opn opnL Ob.opn opnO VCou VCcx St.oneS D.objI D.objK scrL D.scr St.opnS St.clsS D.cellS D.fzs fzsL k_mrk k_mrq IOper.gh
set_option maxRecDepth 100000 in
set_option maxHeartbeats 16000000 in
theorem v_Tick (h1 : T.sp n_coord_begin = some sp_begin) (h2 : T.sp n_coord_work_place = some sp_place) (h3 : T.sp n_coord_work_late = some sp_late) : Verified T ir_coord_Tick sp_Tick := by
  refine Verified.mk ?_
  rintro ds ⟨h, next, js, rfl, hl, hf⟩
  rw [tick_F]
  have x1 : sp_begin.hx = some hs_begin := rfl
  have x2 : sp_place.hx = some hs_place := rfl
  have x3 : sp_late.hx = some (hsW preAt fLate) := rfl
  have p1 := begin_pre h next (l := js) (by omega) hf
  simp only [tickT]
  by_cases hb : begE h next js = 0
  · have f1 := begin_F0 hb
    obtain ⟨b1, b2, b3, b4, b5, b6, b7, b8, b9⟩ := beg_ok hb
    obtain ⟨c1, c2, c3, c4, c5, c6⟩ := check_ok b1
    have hin := fun k hk => tick_at hb k hk
    have hst : ∀ k (hk : k < js.length), (js.take (k + 1)).foldl (tickW h) (wdN next js) = tickW h ((js.take k).foldl (tickW h) (wdN next js)) js[k] := by
      intro k hk
      rw [← List.take_append_getElem hk, List.foldl_append]; rfl
    have h00 : (js.take 0).foldl (tickW h) (wdN next js) = wdN next js := rfl
    have hall : (js.take js.length).foldl (tickW h) (wdN next js) = js.foldl (tickW h) (wdN next js) := by rw [List.take_length]
    simp only [hb, if_true]
    rw [← hall]
    generalize hWd : (fun k => (js.take k).foldl (tickW h) (wdN next js)) = W at *
    have hWd' : ∀ k, (js.take k).foldl (tickW h) (wdN next js) = W k := fun k => by rw [← hWd]
    simp only [hWd'] at hin hst h00 ⊢
    clear hWd hWd' hall
    simp only [cfgD, dkC, wb, trnC] at f1 p1 ⊢
    simp (implicitDefEqProofs := false) (maxSteps := 10000000) [ir_coord_Tick, h1, x1, f1, p1]
    refine k_loop (ι := {k : Nat // k ≤ js.length}) (fun x => ⟨mkTm 72 0 [(4, .own 4 0), (8, .own 8 0), (9, .int .i64 0), (10, .own 210000 0), (28, .fz 6 (js.map jbC)), (29, .int .i64 js.length), (30, .int .i64 x.1)], [(210000, wb h (W x.1).next 100 101 102 103 (W x.1).su (W x.1).co), (100, .rws 6 ((W x.1).js.map jbS)), (101, .row 12 (W x.1).ms), (102, .row 8 (W x.1).rs), (103, .row 6 (W x.1).rp), (4, .box [.int .i64 h.S, .fz 2 (h.ls.map lbc), .int .i64 h.P]), (8, .box [.int .i64 0, .nl 6, .nl 12, .nl 8, .nl 6, .int .i64 0, .int .i64 0])]⟩)
      (fun x => js.length - x.1) [(100, some 210001), (101, some 210002), (102, some 210003), (103, some 210004)] ⟨0, by omega⟩ (by simp (implicitDefEqProofs := false) (maxSteps := 10000000) [wb, h00, wdN]) ?_
    rintro ⟨k, hk⟩ P hP
    simp only [wb] at hP ⊢
    rcases Nat.lt_or_ge k js.length with hlt | hge
    · have hk1 : (k : Int) < js.length := by omega
      have hel := elem_map jbC js k hlt
      have hw := hin k (by omega)
      have hw2 := hst k hlt
      have hm : js[k] ∈ js.drop k := by rw [List.drop_eq_getElem_cons hlt]; exact List.mem_cons_self
      obtain ⟨i, hp, hi, hn⟩ := placeJ_mem ⟨_, hw.there _ hm, rfl⟩
      simp only [tickW, hp, Int.toNat_natCast] at hw2
      obtain ⟨q1, q2, q3⟩ := hw.ts _ (mem_jAt hi)
      have g1 := hw.jl
      have g2 := hw.ml
      have g3 := hw.rl
      have g4 := hw.pl
      clear hw hst hin h00 hm f1 p1
      have hP' := hP
      clear hP
      have hgo : ∀ w' : Wd, W (k + 1) = w' → ∀ (s : St) (σ : List (Nat × Option Nat)), St.le σ s ⟨mkTm 72 0 [(4, .own 4 0), (8, .own 8 0), (9, .int .i64 0), (10, .own 210000 0), (28, .fz 6 (js.map jbC)), (29, .int .i64 js.length), (30, .int .i64 ((k + 1 : Nat) : Int))], [(210000, wb h w'.next 100 101 102 103 w'.su w'.co), (100, .rws 6 (w'.js.map jbS)), (101, .row 12 w'.ms), (102, .row 8 w'.rs), (103, .row 6 w'.rp), (4, .box [.int .i64 h.S, .fz 2 (h.ls.map lbc), .int .i64 h.P]), (8, .box [.int .i64 0, .nl 6, .nl 12, .nl 8, .nl 6, .int .i64 0, .int .i64 0])]⟩ → P s := by
        rintro w' rfl s σ hs
        exact hP' s σ ⟨k + 1, by omega⟩ hs (by simp only; omega)
      clear hP'
      generalize W (k + 1) = w' at hw2 hgo
      replace hgo := hgo w' rfl
      subst hw2
      generalize W k = w at hp hi hn q1 q2 q3 g1 g2 g3 g4 hgo ⊢
      generalize W js.length = wf
      clear W
      obtain ⟨nx, su, co, ws, ms, rs, rp⟩ := w
      simp only at hp hi hn q1 q2 q3 g1 g2 g3 g4 hgo
      have hi1 : (i : Int) < ws.length := by omega
      have hel2 := elem_jbS hi
      have f2 := place_F js[k].n h nx su co ws ms rs rp
      have p2 := place_pre js[k].n h nx su co (js := ws) ms rs rp (by omega)
      rw [hp] at f2
      generalize js[k] = t at hel f2 p2 hn
      generalize hjj : jAt ws i = j at hel2 q1 q2 q3 hgo hn
      have hset : (ws.map jbS).set i (jbS (aged j)) = (ws.set i (aged j)).map jbS := by rw [List.map_set]
      have hJl : (ws.set i (aged j)).length = ws.length := by simp
      have hJa : jAt (ws.set i (aged j)) i = aged j := by simp [jAt, hi]
      have hJe : elem ((ws.set i (aged j)).map jbS) i = jbS (aged j) := by rw [List.map_set, elem_set_eq (by simpa using hi)]
      have f3 := hsW_F preAt fLate h ⟨nx, su, co, ws.set i (aged j), ms, rs, rp⟩ [.int .i64 i]
      have p3 := hsW_pre fLate (pre := preAt) (h := h) (w := ⟨nx, su, co, ws.set i (aged j), ms, rs, rp⟩) (av := [.int .i64 i]) ⟨i, rfl, by simp only [hJl]; exact hi, by simp only [hJa]; exact q1, c1, by simp only [hJl]; omega, by simp only; omega, by simp only; omega, by simp only; omega⟩
      simp only [fLate, Int.toNat_natCast, hJa] at f3
      simp only [tickI, ageW] at hgo
      by_cases hage : h.P ≤ j.age + 1
      · simp only [if_pos hage] at hgo
        generalize lateW h ⟨nx, su, co, ws.set i (aged j), ms, rs, rp⟩ i (aged j) = w' at f3 hgo
        generalize ws.set i (aged j) = J at hset hJl hJa hJe f3 p3
        obtain ⟨a1, a2, a3, a4, a5, a6⟩ := j
        obtain ⟨t1, t2, t3, t4, t5, t6⟩ := t
        obtain ⟨w1, w2, w3, w4, w5', w6, w7'⟩ := w'
        simp only at hage q2 q3
        simp only [jbS, jbC, aged, wRW, wR, wIW, wI, w5, wb] at hel hel2 hset hJe f2 p2 f3 p3 hgo ⊢
        simp (implicitDefEqProofs := false) (maxSteps := 10000000) [ir_coord_Tick_b0, hk1, hlt, hel, h2, x2, f2, p2, hi, hi1, hel2, hset, hJl, hJe, hage, h3, x3, f3, p3]
        exact ⟨by simp only [inR]; omega, by simp only [inR]; omega, hgo _ [(100, some 670000), (101, some 670001), (102, some 670002), (103, some 670003)] (by simp (implicitDefEqProofs := false) (maxSteps := 10000000))⟩
      · simp only [if_neg hage] at hgo
        generalize ws.set i (aged j) = J at hset hJl hJa hJe hgo
        clear f3 p3
        obtain ⟨a1, a2, a3, a4, a5, a6⟩ := j
        obtain ⟨t1, t2, t3, t4, t5, t6⟩ := t
        simp only at hage q2 q3
        simp only [jbS, jbC, aged, wRW, wR, wIW, wI, w5, wb] at hel hel2 hset hJe f2 p2 hgo ⊢
        simp (implicitDefEqProofs := false) (maxSteps := 10000000) [ir_coord_Tick_b0, hk1, hlt, hel, h2, x2, f2, p2, hi, hi1, hel2, hset, hJl, hJe, hage]
        exact ⟨by simp only [inR]; omega, by simp only [inR]; omega, hgo _ [] (by simp (implicitDefEqProofs := false) (maxSteps := 10000000))⟩
    · have hk1 : ¬ (k : Int) < js.length := by omega
      obtain rfl : k = js.length := by omega
      simp (implicitDefEqProofs := false) (maxSteps := 10000000) [ir_coord_Tick_b0, ir_coord_Tick_r1, hk1, outE_jbS]
  · have f1 := begin_F1 hb
    simp only [hb, if_false]
    generalize begE h next js = e at hb f1 ⊢
    simp only [cfgD, dkC, wb, trnC, wd0] at f1 p1 ⊢
    simp (implicitDefEqProofs := false) (maxSteps := 10000000) [ir_coord_Tick, h1, x1, f1, p1, hb]
end
end Go.Proofs.YtchbnpjegacobaaDoor
