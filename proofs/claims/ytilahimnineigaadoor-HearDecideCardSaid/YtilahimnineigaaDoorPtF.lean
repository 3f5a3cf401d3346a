/-
  What a site answers: the functions compute what the plain functions beside them say. Conditions: those of its specification's 'pre', and that the functions that are called are what theirs say.
-/
import Derived.Test.YtilahimnineigaaDoorPtAh
set_option linter.unusedVariables false
set_option linter.unusedSimpArgs false
namespace Go.Proofs.YtilahimnineigaaDoor
open Go Go.Vcg

def ansM (me : Int) (m : Ms) (kind : Int) : Ms := ⟨kind, me, m.frm, m.site, m.n, 0, 0, 0, 0, 0, false, 0⟩
def sp_answer : Sp := { pre := fun ds => ∃ (S P l me : Int) (x y : List D) (m : Ms) (k : Int), ds = [.ad 6 [siteC S P l me x y] 0 0, .agg (msgC m), .int .i64 k], F := fun | [.ad _ [[_, _, _, _, .int _ me, _]] _ _, .agg m, .int _ k] => .agg (msgC (ansM me (msgL m) k)) | _ => .any }
theorem answer_F (S P l me : Int) (x y : List D) (m : Ms) (k : Int) : sp_answer.F [.ad 6 [siteC S P l me x y] 0 0, .agg (msgC m), .int .i64 k] = .agg (msgC (ansM me m k)) := rfl
theorem answer_pre (S P l me : Int) (x y : List D) (m : Ms) (k : Int) : sp_answer.pre [.ad 6 [siteC S P l me x y] 0 0, .agg (msgC m), .int .i64 k] = True := by
  simp only [sp_answer, eq_iff_iff, iff_true]; exact ⟨S, P, l, me, x, y, m, k, rfl⟩
def refB (e : Int) : Bool := e == 11 || e == 8
def sp_refusal : Sp := { pre := fun ds => ∃ e : Int, ds = [.int .i64 e], F := fun | [.int _ e] => .bool (refB e) | _ => .any }
theorem refusal_F (e : Int) : sp_refusal.F [.int .i64 e] = .bool (refB e) := rfl
theorem refusal_pre (e : Int) : sp_refusal.pre [.int .i64 e] = True := by
  simp only [sp_refusal, eq_iff_iff, iff_true]; exact ⟨e, rfl⟩
def sp_Above2 : Sp := { pre := fun ds => ∃ p q : Int, ds = [.agg [.int .i64 p, .int .i64 0], .agg [.int .i64 q, .int .i64 0]], F := fun | [.agg [.int _ p, _], .agg [.int _ q, _]] => .bool (decide (q ≤ p)) | _ => .any }
theorem above2_F (p q : Int) : sp_Above2.F [.agg [.int .i64 p, .int .i64 0], .agg [.int .i64 q, .int .i64 0]] = .bool (decide (q ≤ p)) := rfl
theorem above2_pre (p q : Int) : sp_Above2.pre [.agg [.int .i64 p, .int .i64 0], .agg [.int .i64 q, .int .i64 0]] = True := by
  simp only [sp_Above2, eq_iff_iff, iff_true]; exact ⟨p, q, rfl⟩
/-- What is told of a read. -/
def gotM (me : Int) (m : Ms) (v n e : Int) : Ms := { ansM me m 5 with label := m.label, key := m.key, ask := m.ask, value := v, version := n, code := e }
abbrev Ans := Sto × List Ms × List (List D)
def ansD (x : Ans) (ns : List (List D)) : List D := ansC x.1 (x.2.1.map msgC) x.2.2 ns
def outR (st x : Sto) (me : Int) (m : Ms) (v n e : Int) : Ans := if e = 0 then (x, [gotM me m v n 0], []) else if refB e = true then (st, [gotM me m 0 0 e], []) else (st, [], [])
noncomputable def readA (a b : Sto) (l me : Int) (m : Ms) : Ans :=
  if l = 0 then outR a (readS a (m.site, m.n) m.key).1 me m (readS a (m.site, m.n) m.key).2.1 (readS a (m.site, m.n) m.key).2.2.1 (readS a (m.site, m.n) m.key).2.2.2
  else outR b b me m (peekS a m.key).1 (peekS a m.key).2.1 (peekS a m.key).2.2
noncomputable def sp_sread : Sp := { pre := fun ds => ∃ (S P l me : Int) (a b : Sto) (y : List D) (m : Ms), ds = [.ad 6 [siteC S P l me (stoC a) y] 0 0, .agg (msgC m)] ∧ (l = 0 ∨ l = 1) ∧ m.label = 0 ∧ isSt y b ∧ fewS' a ∧ fewS' b, F := fun | [.ad _ [[_, _, _, .int _ l, .int _ me, .fz _ [a, b]]] _ _, .agg m] => .agg (ansD (readA (stoOf (.agg a)) (stoOf (.agg b)) l me (msgL m)) []) | _ => .any }
theorem isSt_of {y : List D} {b : Sto} (h : isSt y b) : stoOf (.agg y) = b := by
  rcases h with rfl | ⟨rfl, rfl⟩
  · exact stoOf_stoD b
  · rfl
theorem sread_F {S P l me : Int} {a b : Sto} {y : List D} (h : isSt y b) (m : Ms) : sp_sread.F [.ad 6 [siteC S P l me (stoC a) y] 0 0, .agg (msgC m)] = .agg (ansD (readA a b l me m) []) := by
  have e : stoOf (.agg (stoC a)) = a := stoOf_stoD a
  have e2 : msgL (msgC m) = m := rfl
  simp only [sp_sread, siteC, e, isSt_of h, e2]
theorem sread_pre {S P l me : Int} {a b : Sto} {y : List D} {m : Ms} (hl : l = 0 ∨ l = 1) (hm : m.label = 0) (h : isSt y b) (h1 : fewS' a) (h2 : fewS' b) : sp_sread.pre [.ad 6 [siteC S P l me (stoC a) y] 0 0, .agg (msgC m)] = True := by
  simp only [sp_sread, eq_iff_iff, iff_true]; exact ⟨S, P, l, me, a, b, y, m, rfl, hl, hm, h, h1, h2⟩
/-- What is told of a write. -/
def doneM (me : Int) (m : Ms) (e : Int) : Ms := { ansM me m 6 with key := m.key, ask := m.ask, code := e }
def prepC (m : Ms) : List D := [.int .i64 1, .int .i64 m.site, .int .i64 m.n, .int .i64 m.key, .int .i64 m.value, .int .i64 m.ask, .bool false, .fz 1 []]
noncomputable def writeE (a : Sto) (room : Int) (m : Ms) : Int := if (writeS a (m.site, m.n) m.key m.value m.ask).2 = 0 ∧ room < 500 then 8 else (writeS a (m.site, m.n) m.key m.value m.ask).2
noncomputable def writeA (a : Sto) (me room : Int) (m : Ms) : Ans :=
  if writeE a room m = 0 then ((writeS a (m.site, m.n) m.key m.value m.ask).1, [doneM me m 0], [prepC m])
  else if refB (writeE a room m) = true then (a, [doneM me m (writeE a room m)], []) else (a, [], [])
noncomputable def sp_swrite : Sp := { pre := fun ds => ∃ (S P me room : Int) (a : Sto) (y : List D) (m : Ms), ds = [.ad 6 [siteC S P 0 me (stoC a) y] 0 0, .agg (msgC m), .int .i64 room] ∧ fewS' a, F := fun | [.ad _ [[_, _, _, _, .int _ me, .fz _ [a, _]]] _ _, .agg m, .int _ room] => .agg (ansD (writeA (stoOf (.agg a)) me room (msgL m)) []) | _ => .any }
theorem swrite_F (S P me room : Int) (a : Sto) (y : List D) (m : Ms) : sp_swrite.F [.ad 6 [siteC S P 0 me (stoC a) y] 0 0, .agg (msgC m), .int .i64 room] = .agg (ansD (writeA a me room m) []) := by
  have e : stoOf (.agg (stoC a)) = a := stoOf_stoD a
  have e2 : msgL (msgC m) = m := rfl
  simp only [sp_swrite, siteC, e, e2]
theorem swrite_pre (S P me room : Int) {a : Sto} (h : fewS' a) (y : List D) (m : Ms) : sp_swrite.pre [.ad 6 [siteC S P 0 me (stoC a) y] 0 0, .agg (msgC m), .int .i64 room] = True := by
  simp only [sp_swrite, eq_iff_iff, iff_true]; exact ⟨S, P, me, room, a, y, m, rfl, h⟩
/-- What is told of a check. -/
def sureM (me : Int) (m : Ms) (y : Bool) : Ms := { ansM me m 7 with label := m.label, key := m.key, version := m.version, yes := y }
noncomputable def stillY (a : Sto) (l : Int) (m : Ms) : Bool := if l = 0 then (stillS a (m.site, m.n) m.key m.version).1 else (decide ((peekS a m.key).2.2 = 0) && decide ((peekS a m.key).2.1 = m.version))
noncomputable def stillA (a b : Sto) (l me : Int) (m : Ms) : Ans := (if l = 0 then a else b, [sureM me m (stillY a l m)], [])
noncomputable def sp_sstill : Sp := { pre := fun ds => ∃ (S P l me : Int) (a b : Sto) (y : List D) (m : Ms), ds = [.ad 6 [siteC S P l me (stoC a) y] 0 0, .agg (msgC m)] ∧ (l = 0 ∨ l = 1) ∧ m.label = 0 ∧ isSt y b ∧ fewS' a ∧ fewS' b, F := fun | [.ad _ [[_, _, _, .int _ l, .int _ me, .fz _ [a, b]]] _ _, .agg m] => .agg (ansD (stillA (stoOf (.agg a)) (stoOf (.agg b)) l me (msgL m)) []) | _ => .any }
theorem sstill_F {S P l me : Int} {a b : Sto} {y : List D} (h : isSt y b) (m : Ms) : sp_sstill.F [.ad 6 [siteC S P l me (stoC a) y] 0 0, .agg (msgC m)] = .agg (ansD (stillA a b l me m) []) := by
  have e : stoOf (.agg (stoC a)) = a := stoOf_stoD a
  have e2 : msgL (msgC m) = m := rfl
  simp only [sp_sstill, siteC, e, isSt_of h, e2]
theorem sstill_pre {S P l me : Int} {a b : Sto} {y : List D} {m : Ms} (hl : l = 0 ∨ l = 1) (hm : m.label = 0) (h : isSt y b) (h1 : fewS' a) (h2 : fewS' b) : sp_sstill.pre [.ad 6 [siteC S P l me (stoC a) y] 0 0, .agg (msgC m)] = True := by
  simp only [sp_sstill, eq_iff_iff, iff_true]; exact ⟨S, P, l, me, a, b, y, m, rfl, hl, hm, h, h1, h2⟩
section
variable {T : Tb}
attribute [local simp] k_seq k_block k_skip k_reg k_alt k_cond k_exit k_ret kf_nil kf_seq_n kf_seq_e kf_seq_r kf_blk_n kf_blk_e kf_blk_r kf_lp_n kf_lp_e kf_lp_r kf_cut_n kf_cut_e kf_cut_r mkTm VCops VCalt istep act gd applyE wrapD Opd.ev get_mk set_mk set_mk0 tget16 tset16 tget_0 tset_0 tget_1 tset_1 tget_2 tset_2 tget_3 tset_3 tget_4 tset_4 tget_5 tset_5 tget_6 tset_6 tget_7 tset_7 tget_8 tset_8 tget_9 tset_9 tget_10 tset_10 tget_11 tset_11 tget_12 tset_12 tget_13 tset_13 tget_14 tset_14 tget_15 tset_15 D.un D.gu gus IOp.opds binD fnPost getRes IRes.get oneRes D.out outL D.clos closL D.norow norowL D.lv lvL D.scal scalL D.cells D.cell D.cell' St.lk obPut obDel List.lookup cut pickD splice fillParts fillRows elem_cons newsOf D.pl D.forget forgetL Ob.forget forgetO eqCells sg leD leDL leOb apartK St.le D.keys keysL D.rows rowsL obKeys addKeys reach pos D.ren renL Ob.ren inM outM inObs outObs goneK apartN okNames_eq okNms obNms namesOK_nil namesOK_cons freeOK_nil freeOK_cons D.frz frzL Ob.frz frzO St.frz forgetLs dropObs putObs hcall freeOf keeps baseN shD isShift shMax k_bad VCopsG frz_nil actx actc cnum vwCut St.frzT St.opnT St.clsT D.opn opnL Ob.opn opnO
set_option maxRecDepth 100000 in
theorem v_answer : Verified T ir_part_site_answer sp_answer := by
  refine Verified.mk ?_
  rintro ds ⟨S, P, l, me, x, y, m, k, rfl⟩
  rw [answer_F]
  simp (implicitDefEqProofs := false) (maxSteps := 10000000) [ir_part_site_answer, siteC, msgC, ansM]
theorem v_refusal : Verified T ir_part_refusal sp_refusal := by
  refine Verified.mk ?_
  rintro ds ⟨e, rfl⟩
  rw [refusal_F]
  simp (implicitDefEqProofs := false) (maxSteps := 10000000) [ir_part_refusal, refB]
  rfl
theorem v_Above2 : Verified T ir_label_Above sp_Above2 := by
  refine Verified.mk ?_
  rintro ds ⟨p, q, rfl⟩
  rw [above2_F]
  simp (implicitDefEqProofs := false) (maxSteps := 10000000) [ir_label_Above]
  exact fun _ => by decide
set_option maxRecDepth 100000 in
set_option maxHeartbeats 8000000 in
theorem v_sread (h1 : T.sp n_part_site_answer = some sp_answer) (h2 : T.sp n_part_refusal = some sp_refusal) (h3 : T.sp n_store_Read = some sp_Read) (h4 : T.sp n_store_Peek = some sp_Peek) : Verified T ir_part_site_read sp_sread := by
  refine Verified.mk ?_
  rintro ds ⟨S, P, l, me, a, b, y, m, rfl, hl, hm, hy, fa, fb⟩
  rw [sread_F hy]
  have x1 : sp_answer.hx = none := rfl
  have x2 : sp_refusal.hx = none := rfl
  have x3 : sp_Read.hx = none := rfl
  have x4 : sp_Peek.hx = none := rfl
  have f1 := answer_F S P l me (stoC a) y m 5
  have p1 := answer_pre S P l me (stoC a) y m 5
  have f2 := refusal_F
  have p2 := refusal_pre
  rcases hl with rfl | rfl
  · have f3 := read_F a (m.site, m.n) m.key
    have p3 := read_pre fa (m.site, m.n) m.key
    rw [readA, if_pos rfl]
    generalize readS a (m.site, m.n) m.key = r at f3 ⊢
    obtain ⟨u, v, n, e⟩ := r
    obtain ⟨m1, m2, m3, m4, m5, m6, m7, m8, m9, m10, m11, m12⟩ := m
    simp only at hm
    subst hm
    obtain ⟨a1, a2, a3, a4⟩ := a
    obtain ⟨u1, u2, u3, u4⟩ := u
    simp only [stoC, txC, siteC, msgC, ansM] at f1 p1 f3 p3 ⊢
    by_cases e0 : e = 0
    · subst e0
      have g2 := f2 0
      have q2 := p2 0
      clear f2 p2
      simp (implicitDefEqProofs := false) (maxSteps := 10000000) [ir_part_site_read, outR, ansD, ansC, gotM, ansM, refB, h1, h2, h3, x1, x2, x3, f1, p1, f3, p3, g2, q2, msgC]
    · have g2 := f2 e
      have q2 := p2 e
      clear f2 p2
      cases hr : refB e
      · rw [hr] at g2
        simp (implicitDefEqProofs := false) (maxSteps := 10000000) [ir_part_site_read, outR, ansD, ansC, gotM, ansM, hr, e0, h1, h2, h3, x1, x2, x3, f1, p1, f3, p3, g2, q2, msgC]
      · rw [hr] at g2
        simp (implicitDefEqProofs := false) (maxSteps := 10000000) [ir_part_site_read, outR, ansD, ansC, gotM, ansM, hr, e0, h1, h2, h3, x1, x2, x3, f1, p1, f3, p3, g2, q2, msgC]
  · have f4 := peek_F a m.key
    have p4 := peek_pre fa m.key
    rw [readA, if_neg (by omega)]
    generalize peekS a m.key = r at f4 ⊢
    obtain ⟨v, n, e⟩ := r
    obtain ⟨m1, m2, m3, m4, m5, m6, m7, m8, m9, m10, m11, m12⟩ := m
    simp only at hm
    subst hm
    obtain ⟨a1, a2, a3, a4⟩ := a
    simp only [stoC, txC, siteC, msgC, ansM] at f1 p1 f4 p4 ⊢
    rcases hy with rfl | ⟨rfl, rfl⟩
    all_goals
      simp only [stoC, nilS] at f1 p1 ⊢
      by_cases e0 : e = 0
      · subst e0
        have g2 := f2 0
        have q2 := p2 0
        clear f2 p2
        simp (implicitDefEqProofs := false) (maxSteps := 10000000) [ir_part_site_read, outR, ansD, ansC, gotM, ansM, refB, s0, h1, h2, h4, x1, x2, x4, f1, p1, f4, p4, g2, q2, msgC]
      · have g2 := f2 e
        have q2 := p2 e
        clear f2 p2
        cases hr : refB e
        · rw [hr] at g2
          simp (implicitDefEqProofs := false) (maxSteps := 10000000) [ir_part_site_read, outR, ansD, ansC, gotM, ansM, hr, e0, s0, h1, h2, h4, x1, x2, x4, f1, p1, f4, p4, g2, q2, msgC]
        · rw [hr] at g2
          simp (implicitDefEqProofs := false) (maxSteps := 10000000) [ir_part_site_read, outR, ansD, ansC, gotM, ansM, hr, e0, s0, h1, h2, h4, x1, x2, x4, f1, p1, f4, p4, g2, q2, msgC]
set_option maxRecDepth 100000 in
set_option maxHeartbeats 8000000 in
theorem v_swrite (h1 : T.sp n_part_site_answer = some sp_answer) (h2 : T.sp n_part_refusal = some sp_refusal) (h3 : T.sp n_store_Write = some sp_Write) : Verified T ir_part_site_write sp_swrite := by
  refine Verified.mk ?_
  rintro ds ⟨S, P, me, room, a, y, m, rfl, fa⟩
  rw [swrite_F]
  have x1 : sp_answer.hx = none := rfl
  have x2 : sp_refusal.hx = none := rfl
  have x3 : sp_Write.hx = none := rfl
  have f1 := answer_F S P 0 me (stoC a) y m 6
  have p1 := answer_pre S P 0 me (stoC a) y m 6
  have f3 := write_F a (m.site, m.n) m.key m.value m.ask
  have p3 := write_pre fa (m.site, m.n) m.key m.value m.ask
  rw [writeA, writeE]
  generalize writeS a (m.site, m.n) m.key m.value m.ask = r at f3 ⊢
  obtain ⟨u, e⟩ := r
  obtain ⟨m1, m2, m3, m4, m5, m6, m7, m8, m9, m10, m11, m12⟩ := m
  obtain ⟨a1, a2, a3, a4⟩ := a
  obtain ⟨u1, u2, u3, u4⟩ := u
  simp only [stoC, txC, siteC, msgC, ansM] at f1 p1 f3 p3 ⊢
  by_cases e0 : e = 0
  · subst e0
    by_cases hr : room < 500
    · have g2 := refusal_F 8
      have q2 := refusal_pre 8
      have hb : refB 8 = true := rfl
      rw [hb] at g2
      simp (implicitDefEqProofs := false) (maxSteps := 10000000) [ir_part_site_write, ansD, ansC, doneM, ansM, hb, hr, h1, h2, h3, x1, x2, x3, f1, p1, f3, p3, g2, q2, msgC]
    · have g2 := refusal_F 0
      have q2 := refusal_pre 0
      have hb : refB 0 = false := rfl
      rw [hb] at g2
      simp (implicitDefEqProofs := false) (maxSteps := 10000000) [ir_part_site_write, ansD, ansC, doneM, ansM, prepC, hb, hr, h1, h2, h3, x1, x2, x3, f1, p1, f3, p3, g2, q2, msgC]
  · have g2 := refusal_F e
    have q2 := refusal_pre e
    cases hb : refB e
    · rw [hb] at g2
      simp (implicitDefEqProofs := false) (maxSteps := 10000000) [ir_part_site_write, ansD, ansC, doneM, ansM, e0, hb, h1, h2, h3, x1, x2, x3, f1, p1, f3, p3, g2, q2, msgC]
    · rw [hb] at g2
      simp (implicitDefEqProofs := false) (maxSteps := 10000000) [ir_part_site_write, ansD, ansC, doneM, ansM, e0, hb, h1, h2, h3, x1, x2, x3, f1, p1, f3, p3, g2, q2, msgC]
set_option maxRecDepth 100000 in
set_option maxHeartbeats 8000000 in
theorem v_sstill (h1 : T.sp n_part_site_answer = some sp_answer) (h3 : T.sp n_store_Still = some sp_Still) (h4 : T.sp n_store_Peek = some sp_Peek) : Verified T ir_part_site_still sp_sstill := by
  refine Verified.mk ?_
  rintro ds ⟨S, P, l, me, a, b, y, m, rfl, hl, hm, hy, fa, fb⟩
  rw [sstill_F hy]
  have x1 : sp_answer.hx = none := rfl
  have x3 : sp_Still.hx = none := rfl
  have x4 : sp_Peek.hx = none := rfl
  have f1 := answer_F S P l me (stoC a) y m 7
  have p1 := answer_pre S P l me (stoC a) y m 7
  rw [stillA, stillY]
  rcases hl with rfl | rfl
  · have f3 := still_F a (m.site, m.n) m.key m.version
    have p3 := still_pre fa (m.site, m.n) m.key m.version
    rw [if_pos rfl, if_pos rfl]
    generalize stillS a (m.site, m.n) m.key m.version = r at f3 ⊢
    obtain ⟨v, e⟩ := r
    obtain ⟨m1, m2, m3, m4, m5, m6, m7, m8, m9, m10, m11, m12⟩ := m
    simp only at hm
    subst hm
    obtain ⟨a1, a2, a3, a4⟩ := a
    simp only [stoC, txC, siteC, msgC, ansM] at f1 p1 f3 p3 ⊢
    simp (implicitDefEqProofs := false) (maxSteps := 10000000) [ir_part_site_still, ansD, ansC, sureM, ansM, h1, h3, x1, x3, f1, p1, f3, p3, msgC]
  · have f4 := peek_F a m.key
    have p4 := peek_pre fa m.key
    rw [if_neg (by omega), if_neg (by omega)]
    generalize peekS a m.key = r at f4 ⊢
    obtain ⟨v, n, e⟩ := r
    obtain ⟨m1, m2, m3, m4, m5, m6, m7, m8, m9, m10, m11, m12⟩ := m
    simp only at hm
    subst hm
    obtain ⟨a1, a2, a3, a4⟩ := a
    simp only [stoC, txC, siteC, msgC, ansM] at f1 p1 f4 p4 ⊢
    rcases hy with rfl | ⟨rfl, rfl⟩
    all_goals
      simp only [stoC, nilS] at f1 p1 ⊢
      by_cases e0 : e = 0
      · subst e0
        simp (implicitDefEqProofs := false) (maxSteps := 10000000) [ir_part_site_still, ansD, ansC, sureM, ansM, s0, h1, h4, x1, x4, f1, p1, f4, p4, msgC]
        rfl
      · simp (implicitDefEqProofs := false) (maxSteps := 10000000) [ir_part_site_still, ansD, ansC, sureM, ansM, s0, e0, h1, h4, x1, x4, f1, p1, f4, p4, msgC]
end
end Go.Proofs.YtilahimnineigaaDoor
