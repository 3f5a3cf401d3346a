/-
  Who is not committed ends, when nobody asks for anything for so long; who is stays, till all know: the law's function says so. Conditions: those of its specification's 'pre', and that the functions that are called are what theirs say.
-/
import Derived.Test.YtchbnpjegacobaaDoorDkE
import Derived.Test.YtchbnpjegacobaaDoorIrTickEnds
set_option linter.unusedVariables false
set_option linter.unusedSimpArgs false
namespace Go.Proofs.YtchbnpjegacobaaDoor
open Go Go.Vcg

def sp_TickEnds : Sp := { pre := fun ds => ∃ (s : Int) (l : List Rw), ds = [.int .i64 s, rawsD l] ∧ inR .i64 s ∧ okRaws l, F := fun _ => .bool true }
def iterD (d : Int × List Jb) : Nat → Int × List Jb
  | 0 => d
  | k + 1 => tickD (iterD d k)
theorem iterD_ok {S : Int} {d : Int × List Jb} (hd : DkO (hd2 S 1 0) d) : ∀ k, DkO (hd2 S 1 0) (iterD d k)
  | 0 => hd
  | k + 1 => tickD_ok (iterD_ok hd k)
section
variable {T : Tb}
attribute [local simp] k_seq k_block k_skip k_reg k_alt k_cond k_exit k_ret kf_nil kf_seq_n kf_seq_e kf_seq_r kf_blk_n kf_blk_e kf_blk_r kf_lp_n kf_lp_e kf_lp_r kf_cut_n kf_cut_e kf_cut_r mkTm VCops VCalt istep act gd applyE wrapD Opd.ev get_mk set_mk set_mk0 tget16 tset16 tget_0 tset_0 tget_1 tset_1 tget_2 tset_2 tget_3 tset_3 tget_4 tset_4 tget_5 tset_5 tget_6 tset_6 tget_7 tset_7 tget_8 tset_8 tget_9 tset_9 tget_10 tset_10 tget_11 tset_11 tget_12 tset_12 tget_13 tset_13 tget_14 tset_14 tget_15 tset_15 D.un D.gu gus IOp.opds binD fnPost getRes IRes.get oneRes D.out outL D.clos closL D.norow norowL D.lv lvL D.scal scalL D.cells D.cell D.cell' St.lk obPut obDel List.lookup cut pickD splice fillParts fillRows elem_cons newsOf D.pl D.forget forgetL Ob.forget forgetO eqCells sg leD leDL leOb apartK St.le D.keys keysL D.rows rowsL obKeys addKeys reach pos D.ren renL Ob.ren inM outM inObs outObs goneK apartN okNames_eq okNms obNms namesOK_nil namesOK_cons freeOK_nil freeOK_cons D.frz frzL Ob.frz frzO St.frz forgetLs dropObs putObs hcall freeOf keeps baseN shD isShift shMax k_bad VCopsG frz_nil actx actc cnum vwCut St.frzT St.opnT St.clsT D.opn opnL Ob.opn opnO VCou VCcx St.oneS D.objI D.objK scrL D.scr St.opnS St.clsS D.cellS D.fzs fzsL k_mrk k_mrq IOper.gh
set_option maxRecDepth 100000 in
set_option maxHeartbeats 16000000 in
theorem v_TickEnds (h1 : T.sp n_reredoskeep_two = some sp_two) (h2 : T.sp n_reredoskeep_coordTells = some sp_tells) (h3 : T.sp n_reredoskeep_Desk = some sp_Desk) (h4 : T.sp n_coord_Check = some sp_CCheck) (h5 : T.sp n_coord_Tick = some sp_Tick) : Verified T ir_reredoskeep_TickEnds sp_TickEnds := by
  refine Verified.mk ?_
  rintro ds ⟨s, l, rfl, hs, hl⟩
  have hF : sp_TickEnds.F [.int .i64 s, rawsD l] = .bool true := rfl
  rw [hF]
  have x1 : sp_two.hx = none := rfl
  have x2 : sp_tells.hx = none := rfl
  have x3 : sp_Desk.hx = none := rfl
  have x4 : sp_CCheck.hx = none := rfl
  have x5 : sp_Tick.hx = none := rfl
  have f2 : sp_tells.F [] = .bool true := rfl
  have p2 : sp_tells.pre [] = True := by simp only [sp_tells]
  have bS := pk_bounds s 3 (by decide)
  have f1 := two_F s
  have p1 := two_pre hs
  have hS : 1 ≤ 1 + pk s 3 ∧ 1 + pk s 3 ≤ 4 := by omega
  generalize 1 + pk s 3 = S at f1 hS
  have f3 := desk2_F S 1 0 l 30
  have p3 := desk2_pre hS (l := 1) (me := 0) (by omega) (by omega) hl (k := 30) (by omega)
  have hok := okHd_2 hS (l := 1) (me := 0) (by omega) (by omega)
  have hd := dkO_desk hok (l.take 30)
  generalize deskT (hd2 S 1 0) (l.take 30) = d at f3 hd
  have hfew := dkO_few hok hd
  have e30 : ((30 : Nat) : Int) = 30 := rfl
  have f4 := chk2_F S d.1 d.2
  rw [chk2_zero hS hd] at f4
  have p4 := chk2_pre S hfew
  obtain ⟨t1, t2⟩ := tick_three hd
  have hit := fun k => iterD_ok hd k
  have hjl := hd.jl
  have hi0 : iterD d 0 = d := rfl
  have hi3 : tickD (tickD (tickD d)) = iterD d 3 := rfl
  rw [hi3] at t1 t2
  have hcnt : ∀ k (hk : k < d.2.length), toldN (d.2.take (k + 1)) = toldN (d.2.take k) + if d.2[k].state = 3 then 1 else 0 := by
    intro k hk
    rw [← List.take_append_getElem hk, toldN, List.countP_append]
    simp [toldN, List.countP_cons]
  have hle : ∀ k, toldN (d.2.take k) ≤ 6 := fun k => by
    have h1 := List.countP_le_length (p := fun j : Jb => decide (j.state = 3)) (l := d.2.take k)
    have h2 : (d.2.take k).length ≤ 6 := by simp; omega
    simp only [toldN]; omega
  simp only [cfgD, rawsD, e30] at f1 p1 f3 p3
  have f4' := f4
  simp only [dkD, dkC, cfgD, rawsD] at f3 f4 p4 ⊢
  simp (implicitDefEqProofs := false) (maxSteps := 10000000) [ir_reredoskeep_TickEnds, h1, x1, f1, p1, h2, x2, f2, p2, h3, x3, f3, p3]
  refine k_loop (ι := {k : Nat // k ≤ d.2.length}) (fun x => ⟨mkTm 79 0 [(5, .own 5 0), (6, .own 6 0), (7, .int .i64 ((toldN (d.2.take x.1) : Nat) : Int)), (23, .fz 6 (d.2.map jbC)), (24, .int .i64 d.2.length), (25, .int .i64 x.1)], [(5, .box [.int .i64 S, .fz 2 (ls2.map lbc), .int .i64 3]), (6, .box [.int .i64 d.1, .fz 6 (d.2.map jbC)])]⟩)
    (fun x => d.2.length - x.1) [] ⟨0, by omega⟩ (by simp (implicitDefEqProofs := false) (maxSteps := 10000000) [toldN]) ?_
  rintro ⟨k, hk⟩ P hP
  rcases Nat.lt_or_ge k d.2.length with g | g
  · have g1 : (k : Int) < d.2.length := by omega
    have hel := elem_map jbC d.2 k g
    have hc := hcnt k g
    have hl6 := hle k
    generalize toldN (d.2.take k) = C at hc hl6 ⊢
    generalize d.2[k] = j at hel hc
    obtain ⟨a1, a2, a3, a4, a5, a6⟩ := j
    simp only [jbC] at hel hc
    by_cases e : a2 = 3
    · simp only [if_pos e] at hc
      simp (implicitDefEqProofs := false) (maxSteps := 10000000) [ir_reredoskeep_TickEnds_b0, g1, g, hel, e]
      exact ⟨by simp only [inR]; omega, by simp only [inR]; omega, hP _ [] ⟨k + 1, by omega⟩ (by simp only [hc]; simp (implicitDefEqProofs := false) (maxSteps := 10000000)) (by simp only; omega)⟩
    · simp only [if_neg e, Nat.add_zero] at hc
      simp (implicitDefEqProofs := false) (maxSteps := 10000000) [ir_reredoskeep_TickEnds_b0, g1, g, hel, e]
      exact ⟨by simp only [inR]; omega, hP _ [] ⟨k + 1, by omega⟩ (by simp only [hc]; simp (implicitDefEqProofs := false) (maxSteps := 10000000)) (by simp only; omega)⟩
  · have g1 : ¬ (k : Int) < d.2.length := by omega
    obtain rfl : k = d.2.length := by omega
    clear hP hcnt hle f3 p3
    simp only [List.take_length]
    simp (implicitDefEqProofs := false) (maxSteps := 10000000) [ir_reredoskeep_TickEnds_b0, ir_reredoskeep_TickEnds_r3, ir_reredoskeep_TickEnds_r4, ir_reredoskeep_TickEnds_r5, g1, h4, x4, f4, p4]
    refine k_loop (ι := {i : Nat // i ≤ 3}) (fun x => ⟨mkTm 79 0 [(5, .own 5 0), (6, .own 6 0), (7, .int .i64 ((toldN d.2 : Nat) : Int)), (10, .int .i64 x.1)], [(5, .box [.int .i64 S, .fz 2 (ls2.map lbc), .int .i64 3]), (6, .box [.int .i64 (iterD d x.1).1, .fz 6 ((iterD d x.1).2.map jbC)])]⟩)
      (fun x => 3 - x.1) [] ⟨0, by omega⟩ (by simp (implicitDefEqProofs := false) (maxSteps := 10000000) [hi0]) ?_
    rintro ⟨i, hi⟩ P hP
    by_cases gi : i < 3
    · have gi1 : (i : Int) < 3 := by omega
      have hdi := hit i
      have hfi := dkO_few hok hdi
      obtain ⟨ms, rs, rp, ht⟩ := tick2 hS hdi
      have f5 := tick2_F S (iterD d i)
      rw [ht] at f5
      have p5 := tick2_pre S hfi
      have hn : iterD d (i + 1) = ((iterD d i).1, (tickD (iterD d i)).2) := rfl
      have hP2 : ∀ dd : Int × List Jb, iterD d (i + 1) = dd → ∀ (s : St) (σ : List (Nat × Option Nat)), St.le σ s ⟨mkTm 79 0 [(5, .own 5 0), (6, .own 6 0), (7, .int .i64 ((toldN d.2 : Nat) : Int)), (10, .int .i64 ((i + 1 : Nat) : Int))], [(5, .box [.int .i64 S, .fz 2 (ls2.map lbc), .int .i64 3]), (6, .box [.int .i64 dd.1, .fz 6 (dd.2.map jbC)])]⟩ → P s := by
        rintro dd rfl s σ hs
        exact hP s σ ⟨i + 1, by omega⟩ hs (by simp only; omega)
      replace hP2 := hP2 _ hn
      clear hP hn ht hdi hfi t1 t2 hit
      generalize (tickD (iterD d i)).2 = js2 at f5 hP2
      generalize iterD d i = dd at f5 p5 hP2 ⊢
      obtain ⟨dn, dj⟩ := dd
      simp only [cfgD, dkD, dkC, trnC] at f5 p5 hP2 ⊢
      simp (implicitDefEqProofs := false) (maxSteps := 10000000) [ir_reredoskeep_TickEnds_b1, gi1, gi, h5, x5, f5, p5]
      exact ⟨by simp only [inR]; omega, by simp only [inR]; omega, hP2 _ [] (by simp (implicitDefEqProofs := false) (maxSteps := 10000000))⟩
    · have gi1 : ¬ (i : Int) < 3 := by omega
      obtain rfl : i = 3 := by omega
      clear hP
      simp (implicitDefEqProofs := false) (maxSteps := 10000000) [ir_reredoskeep_TickEnds_b1, ir_reredoskeep_TickEnds_r3, ir_reredoskeep_TickEnds_r4, ir_reredoskeep_TickEnds_r5]
      generalize hdd : iterD d 3 = dd at t1 t2 ⊢
      refine k_loop (ι := {k : Nat // k ≤ dd.2.length}) (fun x => ⟨mkTm 79 0 [(6, .own 6 0), (7, .int .i64 ((toldN d.2 : Nat) : Int)), (64, .fz 6 (dd.2.map jbC)), (65, .int .i64 dd.2.length), (66, .int .i64 x.1)], [(6, .box [.int .i64 dd.1, .fz 6 (dd.2.map jbC)])]⟩)
        (fun x => dd.2.length - x.1) [] ⟨0, by omega⟩ (by simp (implicitDefEqProofs := false) (maxSteps := 10000000)) ?_
      rintro ⟨k, hk⟩ P hP
      have hddl : dd.2.length ≤ 6 := by
        have := (hit 3).jl
        rw [hdd] at this; exact this
      rcases Nat.lt_or_ge k dd.2.length with g | g
      · have g1 : (k : Int) < dd.2.length := by omega
        have hel := elem_map jbC dd.2 k g
        have hst := t1 _ (List.getElem_mem g)
        generalize dd.2[k] = j at hel hst
        obtain ⟨a1, a2, a3, a4, a5, a6⟩ := j
        simp only [jbC] at hel hst
        simp (implicitDefEqProofs := false) (maxSteps := 10000000) [ir_reredoskeep_TickEnds_b2, g1, g, hel, hst]
        exact ⟨by simp only [inR]; omega, hP _ [] ⟨k + 1, by omega⟩ (by simp (implicitDefEqProofs := false) (maxSteps := 10000000)) (by simp only; omega)⟩
      · have g1 : ¬ (k : Int) < dd.2.length := by omega
        have t3 : (dd.2.length : Int) = toldN d.2 := by omega
        have g2 : ¬ (k : Int) < toldN d.2 := by omega
        have g3 : ¬ k < toldN d.2 := by omega
        simp (implicitDefEqProofs := false) (maxSteps := 10000000) [ir_reredoskeep_TickEnds_b2, ir_reredoskeep_TickEnds_r3, ir_reredoskeep_TickEnds_r4, ir_reredoskeep_TickEnds_r5, g1, g2, g3, t3]
end
end Go.Proofs.YtchbnpjegacobaaDoor
