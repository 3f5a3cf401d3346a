/-
  Calls, answers and desks of raw numbers. Conditions: those of each specification's 'pre', and that the functions that are called are what theirs say.
-/
import Derived.Test.YtchbnpjegacobaaDoorCoX
set_option linter.unusedVariables false
set_option linter.unusedSimpArgs false
namespace Go.Proofs.YtchbnpjegacobaaDoor
open Go Go.Vcg

def sp_sameIntsR : Sp := { pre := fun ds => ∃ (a b : List Int), ds = [.fz 1 (a.map ic), .fz 1 (b.map ic)] ∧ a.length ≤ 1000000 ∧ b.length ≤ 1000000, F := fun | [x, y] => .bool (decide (intsOf x = intsOf y)) | _ => .any }
theorem intsOf_fz (a : List Int) : intsOf (.fz 1 (a.map ic)) = a := by simp [intsOf, intOf_ic]
theorem pre_sameIntsR (a b : List Int) (ha : a.length ≤ 1000000) (hb : b.length ≤ 1000000) : sp_sameIntsR.pre [.fz 1 (a.map ic), .fz 1 (b.map ic)] = True := by
  simp only [sp_sameIntsR, eq_iff_iff, iff_true]
  exact ⟨a, b, rfl, ha, hb⟩
theorem F_sameIntsR (a b : List Int) : sp_sameIntsR.F [.fz 1 (a.map ic), .fz 1 (b.map ic)] = .bool (decide (a = b)) := by
  simp only [sp_sameIntsR, intsOf_fz]

def ls2 : List (Int × Int) := [(0, 0), (1, 0)]
def sp_two : Sp := { pre := fun ds => ∃ s : Int, ds = [.int .i64 s] ∧ inR .i64 s, F := fun | [.int _ s] => cfgD (1 + pk s 3) ls2 3 | _ => .any }
def askC (r : Rw) : Cl :=
  if pk r.k 5 = 0 then ⟨1, 0, 0, 0, 0⟩
  else if pk r.k 5 = 1 then ⟨2, 1 + pk r.a 4, pk r.b 3, pk r.c 4, 0⟩
  else if pk r.k 5 = 2 then ⟨3, 1 + pk r.a 4, 0, pk r.c 4, pk r.d 99⟩
  else ⟨1 + pk r.k 5, 1 + pk r.a 4, 0, 0, 0⟩
def sp_askR : Sp := { pre := fun ds => ∃ r, ds = [.agg (rawC r)] ∧ okRaw r, F := fun | [y] => .agg (clC (askC (rawOf y))) | _ => .any }
theorem askR_F (r : Rw) : sp_askR.F [.agg (rawC r)] = .agg (clC (askC r)) := rfl
theorem askR_pre {r : Rw} (h : okRaw r) : sp_askR.pre [.agg (rawC r)] = True := by
  simp only [sp_askR, eq_iff_iff, iff_true]; exact ⟨r, rfl, h⟩
def backM (me : Int) (m : Ms) (r : Rw) : Ms :=
  if m.kind = 1 then ⟨5, m.to, me, m.site, m.n, m.label, m.key, pk r.d 50, pk r.a 4, m.ask, false, 0⟩
  else if m.kind = 2 then ⟨6, m.to, me, m.site, m.n, 0, m.key, 0, 0, m.ask, false, 0⟩
  else if m.kind = 3 then ⟨7, m.to, me, m.site, m.n, m.label, m.key, 0, m.version, 0, decide (0 < pk r.b 4), 0⟩
  else ⟨8, m.to, me, m.site, m.n, 0, m.key, 0, 0, 0, false, 0⟩
def keepD (t : Wd × Int) (d : Int × List Jb) : Int × List Jb := if t.2 = 0 then (t.1.next, t.1.js) else d
noncomputable def backT (h : Hd) (d : Int × List Jb) (m : Ms) (r : Rw) : Int × List Jb := keepD (hearT h d.1 d.2 (backM h.me m r)) d
def dkD (d : Int × List Jb) : D := .agg (dkC d.1 d.2)
def dkOf : D → Int × List Jb
  | .agg [.int _ n, js] => (n, lsOf jbOf js)
  | _ => (0, [])
theorem dkOf_dkD (d : Int × List Jb) : dkOf (dkD d) = d := by simp only [dkOf, dkD, dkC, jbs_of]
def fewD (d : Int × List Jb) : Prop := d.2.length ≤ 1000 ∧ ∀ j ∈ d.2, fewJ j
noncomputable def sp_back : Sp := {
  pre := fun ds => ∃ (h : Hd) (d : Int × List Jb) (m : Ms) (r : Rw), ds = [cfgD h.S h.ls h.P, .int .i64 h.l, .int .i64 h.me, dkD d, .agg (msgC m), .agg (rawC r)] ∧ fewD d ∧ okRaw r
  F := fun
    | [c, .int _ l, .int _ me, d, .agg m, r] => dkD (backT ⟨(cfgOf c).1, (cfgOf c).2.1, (cfgOf c).2.2, l, me⟩ (dkOf d) (msgL m) (rawOf r))
    | _ => .any }
theorem back_F (h : Hd) (d : Int × List Jb) (m : Ms) (r : Rw) : sp_back.F [cfgD h.S h.ls h.P, .int .i64 h.l, .int .i64 h.me, dkD d, .agg (msgC m), .agg (rawC r)] = dkD (backT h d m r) := by
  have e : msgL (msgC m) = m := rfl
  have e2 : rawOf (.agg (rawC r)) = r := rfl
  simp only [sp_back, cfgOf_cfgD, dkOf_dkD, e, e2]
theorem back_pre (h : Hd) {d : Int × List Jb} (m : Ms) {r : Rw} (hd : fewD d) (hr : okRaw r) : sp_back.pre [cfgD h.S h.ls h.P, .int .i64 h.l, .int .i64 h.me, dkD d, .agg (msgC m), .agg (rawC r)] = True := by
  simp only [sp_back, eq_iff_iff, iff_true]; exact ⟨h, d, m, r, rfl, hd, hr⟩
theorem picked_F (n m : Int) : sp_picked.F [.int .i64 n, .int .i64 m] = .int .i64 (pk n m) := rfl
theorem picked_pre {n m : Int} (h1 : inR .i64 n) (h2 : 0 < m) : sp_picked.pre [.int .i64 n, .int .i64 m] = True := by
  simp only [sp_picked, eq_iff_iff, iff_true]; exact ⟨n, m, rfl, h1, h2⟩
theorem inR_small {n : Int} (h0 : 0 ≤ n) (h1 : n ≤ 2000000) : inR .i64 n := by simp only [inR]; omega

section
variable {T : Tb}
attribute [local simp] k_seq k_block k_skip k_reg k_alt k_cond k_exit k_ret kf_nil kf_seq_n kf_seq_e kf_seq_r kf_blk_n kf_blk_e kf_blk_r kf_lp_n kf_lp_e kf_lp_r kf_cut_n kf_cut_e kf_cut_r mkTm VCops VCalt istep act gd applyE wrapD Opd.ev get_mk set_mk set_mk0 tget16 tset16 tget_0 tset_0 tget_1 tset_1 tget_2 tset_2 tget_3 tset_3 tget_4 tset_4 tget_5 tset_5 tget_6 tset_6 tget_7 tset_7 tget_8 tset_8 tget_9 tset_9 tget_10 tset_10 tget_11 tset_11 tget_12 tset_12 tget_13 tset_13 tget_14 tset_14 tget_15 tset_15 D.un D.gu gus IOp.opds binD fnPost getRes IRes.get oneRes D.out outL D.clos closL D.norow norowL D.lv lvL D.scal scalL D.cells D.cell D.cell' St.lk obPut obDel List.lookup cut pickD splice fillParts fillRows elem_cons newsOf D.pl D.forget forgetL Ob.forget forgetO eqCells sg leD leDL leOb apartK St.le D.keys keysL D.rows rowsL obKeys addKeys reach pos D.ren renL Ob.ren inM outM inObs outObs goneK apartN okNames_eq okNms obNms namesOK_nil namesOK_cons freeOK_nil freeOK_cons D.frz frzL Ob.frz frzO St.frz forgetLs dropObs putObs hcall freeOf keeps baseN shD isShift shMax k_bad VCopsG frz_nil actx actc cnum vwCut St.frzT St.opnT St.clsT D.opn opnL Ob.opn opnO VCou VCcx St.oneS D.objI D.objK scrL D.scr St.opnS St.clsS D.cellS D.fzs fzsL k_mrk k_mrq IOper.gh
theorem v_sameIntsR : Verified T ir_reredoskeep_sameInts sp_sameIntsR := by
  refine Verified.mk ?_
  rintro ds ⟨a, b, rfl, ha, hb⟩
  simp only [sp_sameIntsR, intsOf_fz]
  simp (implicitDefEqProofs := false) [ir_reredoskeep_sameInts]
  refine ⟨fun q e => q (by rw [e]), fun q => ?_⟩
  have q : a.length = b.length := by omega
  refine k_loop (ι := {i : Nat // i ≤ a.length ∧ a.take i = b.take i}) (fun x => ⟨mkTm 26 0 [(0, .fz 1 (a.map ic)), (1, .fz 1 (b.map ic)), (5, .int .i64 x.1)], []⟩)
    (fun x => a.length - x.1) [] ⟨0, by simp⟩ (by simp) ?_
  rintro ⟨i, hi, he⟩ P hP
  rcases Nat.lt_or_ge i a.length with h | h
  · have h' : i < b.length := by omega
    have hi1 : (i : Int) < a.length := by omega
    have hi2 : (i : Int) < b.length := by omega
    have e1 := elem_map ic a i h
    have e2 := elem_map ic b i h'
    have t1 : a.take (i + 1) = a.take i ++ [a[i]] := (List.take_append_getElem h).symm
    have t2 : b.take (i + 1) = b.take i ++ [b[i]] := (List.take_append_getElem h').symm
    simp (implicitDefEqProofs := false) [ir_reredoskeep_sameInts_b0, hi1, hi2, h, h', e1, e2, ic]
    refine ⟨fun n e => n (by subst e; rfl), fun e => ⟨by simp only [inR]; omega, hP _ [] ⟨i + 1, by omega, by rw [t1, t2, he, e]⟩ (by simp [ic]) (by simp; omega)⟩⟩
  · have hi1 : ¬ (i : Int) < a.length := by omega
    simp (implicitDefEqProofs := false) [ir_reredoskeep_sameInts_b0, ir_reredoskeep_sameInts_r1, hi1]
    rw [List.take_of_length_le h, List.take_of_length_le (by omega)] at he
    exact he

set_option maxRecDepth 100000 in
set_option maxHeartbeats 4000000 in
theorem v_two (h1 : T.sp n_reredoskeep_picked = some sp_picked) : Verified T ir_reredoskeep_two sp_two := by
  refine Verified.mk ?_
  rintro ds ⟨s, rfl, hs⟩
  have b := pk_bounds s 3 (by decide)
  simp (implicitDefEqProofs := false) [ir_reredoskeep_two, h1, sp_picked, sp_two, cfgD, lbc, ls2, hs]
  exact ⟨⟨s, 3, ⟨rfl, rfl⟩, hs, by decide⟩, by simp only [inR]; omega⟩
set_option maxRecDepth 100000 in
set_option maxHeartbeats 8000000 in
theorem v_askR (h1 : T.sp n_reredoskeep_picked = some sp_picked) : Verified T ir_reredoskeep_ask sp_askR := by
  refine Verified.mk ?_
  rintro ds ⟨⟨k, a, b, c, d, e⟩, rfl, r1, r2, r3, r4, r5, r6⟩
  rw [askR_F]
  have x1 : sp_picked.hx = none := rfl
  have f1 := picked_F
  have p1 := picked_pre r1 (by decide : (0 : Int) < 5)
  have p2 := picked_pre r2 (by decide : (0 : Int) < 4)
  have p3 := picked_pre r3 (by decide : (0 : Int) < 3)
  have p4 := picked_pre r4 (by decide : (0 : Int) < 4)
  have p5 := picked_pre r5 (by decide : (0 : Int) < 99)
  have b1 := pk_bounds k 5 (by decide)
  have b2 := pk_bounds a 4 (by decide)
  have i1 : inR .i64 (1 + pk k 5) := inR_small (by omega) (by omega)
  have i2 : inR .i64 (1 + pk a 4) := inR_small (by omega) (by omega)
  simp only [askC]
  by_cases q0 : pk k 5 = 0
  · simp (implicitDefEqProofs := false) (maxSteps := 10000000) [ir_reredoskeep_ask, rawC, clC, h1, x1, f1, p1, q0, inR]
  · have q0' : ¬ (1 + pk k 5 = 1) := by omega
    by_cases q1 : pk k 5 = 1
    · simp (implicitDefEqProofs := false) (maxSteps := 10000000) [ir_reredoskeep_ask, rawC, clC, h1, x1, f1, p1, p2, p3, p4, q1, i2]
      simp only [inR]; omega
    · have q1' : ¬ (1 + pk k 5 = 2) := by omega
      by_cases q2 : pk k 5 = 2
      · simp (implicitDefEqProofs := false) (maxSteps := 10000000) [ir_reredoskeep_ask, rawC, clC, h1, x1, f1, p1, p2, p4, p5, q2, i2]
        simp only [inR]; omega
      · have q2' : ¬ (1 + pk k 5 = 3) := by omega
        simp (implicitDefEqProofs := false) (maxSteps := 10000000) [ir_reredoskeep_ask, rawC, clC, h1, x1, f1, p1, p2, q0, q0', q1, q1', q2, q2', i1, i2]
set_option maxRecDepth 100000 in
set_option maxHeartbeats 8000000 in
theorem v_back (h1 : T.sp n_reredoskeep_picked = some sp_picked) (h2 : T.sp n_coord_Hear = some sp_Hear) : Verified T ir_reredoskeep_back sp_back := by
  refine Verified.mk ?_
  rintro ds ⟨h, ⟨next, js⟩, m, ⟨k, a, b, c, d, e⟩, rfl, ⟨hd1, hd2⟩, r1, r2, r3, r4, r5, r6⟩
  rw [back_F]
  have x1 : sp_picked.hx = none := rfl
  have x2 : sp_Hear.hx = none := rfl
  have f1 := picked_F
  have p1 := picked_pre r5 (by decide : (0 : Int) < 50)
  have p2 := picked_pre r2 (by decide : (0 : Int) < 4)
  have p3 := picked_pre r3 (by decide : (0 : Int) < 4)
  have f2 := hear_F h next js
  have p4 := fun m => hear_pre h next (js := js) m hd1 hd2
  simp only [backT, keepD, backM] at hd1 hd2 ⊢
  obtain ⟨m1, m2, m3, m4, m5, m6, m7, m8, m9, m10, m11, m12⟩ := m
  simp only
  by_cases k1 : m1 = 1
  · simp only [if_pos k1]
    subst k1
    replace f2 := f2 ⟨5, m3, h.me, m4, m5, m6, m7, pk d 50, pk a 4, m10, false, 0⟩
    replace p4 := p4 ⟨5, m3, h.me, m4, m5, m6, m7, pk d 50, pk a 4, m10, false, 0⟩
    generalize hearT h next js ⟨5, m3, h.me, m4, m5, m6, m7, pk d 50, pk a 4, m10, false, 0⟩ = t at f2 ⊢
    obtain ⟨⟨w1, w2, w3, w4, w5', w6, w7'⟩, t2⟩ := t
    simp only [dkD, dkC, msgC, rawC, cfgD, trnC] at f2 p4 ⊢
    by_cases q : t2 = 0
    · subst q
      simp (implicitDefEqProofs := false) (maxSteps := 10000000) [ir_reredoskeep_back, h1, x1, f1, p1, p2, h2, x2, f2, p4]
    · simp (implicitDefEqProofs := false) (maxSteps := 10000000) [ir_reredoskeep_back, h1, x1, f1, p1, p2, h2, x2, f2, p4, q]
  · simp only [if_neg k1]
    by_cases k2 : m1 = 2
    · simp only [if_pos k2]
      subst k2
      replace f2 := f2 ⟨6, m3, h.me, m4, m5, 0, m7, 0, 0, m10, false, 0⟩
      replace p4 := p4 ⟨6, m3, h.me, m4, m5, 0, m7, 0, 0, m10, false, 0⟩
      generalize hearT h next js ⟨6, m3, h.me, m4, m5, 0, m7, 0, 0, m10, false, 0⟩ = t at f2 ⊢
      obtain ⟨⟨w1, w2, w3, w4, w5', w6, w7'⟩, t2⟩ := t
      simp only [dkD, dkC, msgC, rawC, cfgD, trnC] at f2 p4 ⊢
      by_cases q : t2 = 0
      · subst q
        simp (implicitDefEqProofs := false) (maxSteps := 10000000) [ir_reredoskeep_back, h2, x2, f2, p4]
      · simp (implicitDefEqProofs := false) (maxSteps := 10000000) [ir_reredoskeep_back, h2, x2, f2, p4, q]
    · simp only [if_neg k2]
      by_cases k3 : m1 = 3
      · simp only [if_pos k3]
        subst k3
        replace f2 := f2 ⟨7, m3, h.me, m4, m5, m6, m7, 0, m9, 0, decide (0 < pk b 4), 0⟩
        replace p4 := p4 ⟨7, m3, h.me, m4, m5, m6, m7, 0, m9, 0, decide (0 < pk b 4), 0⟩
        generalize hearT h next js ⟨7, m3, h.me, m4, m5, m6, m7, 0, m9, 0, decide (0 < pk b 4), 0⟩ = t at f2 ⊢
        obtain ⟨⟨w1, w2, w3, w4, w5', w6, w7'⟩, t2⟩ := t
        simp only [dkD, dkC, msgC, rawC, cfgD, trnC] at f2 p4 ⊢
        by_cases q : t2 = 0
        · subst q
          simp (implicitDefEqProofs := false) (maxSteps := 10000000) [ir_reredoskeep_back, h1, x1, f1, p3, h2, x2, f2, p4]
        · simp (implicitDefEqProofs := false) (maxSteps := 10000000) [ir_reredoskeep_back, h1, x1, f1, p3, h2, x2, f2, p4, q]
      · simp only [if_neg k3]
        replace f2 := f2 ⟨8, m3, h.me, m4, m5, 0, m7, 0, 0, 0, false, 0⟩
        replace p4 := p4 ⟨8, m3, h.me, m4, m5, 0, m7, 0, 0, 0, false, 0⟩
        generalize hearT h next js ⟨8, m3, h.me, m4, m5, 0, m7, 0, 0, 0, false, 0⟩ = t at f2 ⊢
        obtain ⟨⟨w1, w2, w3, w4, w5', w6, w7'⟩, t2⟩ := t
        simp only [dkD, dkC, msgC, rawC, cfgD, trnC] at f2 p4 ⊢
        by_cases q : t2 = 0
        · subst q
          simp (implicitDefEqProofs := false) (maxSteps := 10000000) [ir_reredoskeep_back, h2, x2, f2, p4, k1, k2, k3]
        · simp (implicitDefEqProofs := false) (maxSteps := 10000000) [ir_reredoskeep_back, h2, x2, f2, p4, q, k1, k2, k3]
end
end Go.Proofs.YtchbnpjegacobaaDoor
