/-
  Who begins has a number that nobody had; there is room for so many: the law's function does so. Conditions: those of its specification's 'pre', and that the functions that are called are what theirs say.
-/
import Derived.Test.YtchbnpjegacobaaDoorDkD
import Derived.Test.YtchbnpjegacobaaDoorDkA
import Derived.Test.YtchbnpjegacobaaDoorIrBeginNew
set_option linter.unusedVariables false
set_option linter.unusedSimpArgs false
namespace Go.Proofs.YtchbnpjegacobaaDoor
open Go Go.Vcg

def sp_BeginNew : Sp := { pre := fun ds => ∃ (s : Int) (l : List Rw) (room : Int), ds = [.int .i64 s, rawsD l, .int .i64 room] ∧ inR .i64 s ∧ okRaws l ∧ inR .i64 room, F := fun _ => .bool true }
section
variable {T : Tb}
attribute [local simp] k_seq k_block k_skip k_reg k_alt k_cond k_exit k_ret kf_nil kf_seq_n kf_seq_e kf_seq_r kf_blk_n kf_blk_e kf_blk_r kf_lp_n kf_lp_e kf_lp_r kf_cut_n kf_cut_e kf_cut_r mkTm VCops VCalt istep act gd applyE wrapD Opd.ev get_mk set_mk set_mk0 tget16 tset16 tget_0 tset_0 tget_1 tset_1 tget_2 tset_2 tget_3 tset_3 tget_4 tset_4 tget_5 tset_5 tget_6 tset_6 tget_7 tset_7 tget_8 tset_8 tget_9 tset_9 tget_10 tset_10 tget_11 tset_11 tget_12 tset_12 tget_13 tset_13 tget_14 tset_14 tget_15 tset_15 D.un D.gu gus IOp.opds binD fnPost getRes IRes.get oneRes D.out outL D.clos closL D.norow norowL D.lv lvL D.scal scalL D.cells D.cell D.cell' St.lk obPut obDel List.lookup cut pickD splice fillParts fillRows elem_cons newsOf D.pl D.forget forgetL Ob.forget forgetO eqCells sg leD leDL leOb apartK St.le D.keys keysL D.rows rowsL obKeys addKeys reach pos D.ren renL Ob.ren inM outM inObs outObs goneK apartN okNames_eq okNms obNms namesOK_nil namesOK_cons freeOK_nil freeOK_cons D.frz frzL Ob.frz frzO St.frz forgetLs dropObs putObs hcall freeOf keeps baseN shD isShift shMax k_bad VCopsG frz_nil actx actc cnum vwCut St.frzT St.opnT St.clsT D.opn opnL Ob.opn opnO VCou VCcx St.oneS D.objI D.objK scrL D.scr St.opnS St.clsS D.cellS D.fzs fzsL k_mrk k_mrq IOper.gh
set_option maxRecDepth 100000 in
set_option maxHeartbeats 16000000 in
theorem v_BeginNew (h1 : T.sp n_reredoskeep_two = some sp_two) (h2 : T.sp n_reredoskeep_picked = some sp_picked) (h3 : T.sp n_reredoskeep_Desk = some sp_Desk) (h4 : T.sp n_coord_Call = some sp_Call) (h5 : T.sp n_reredoskeep_sameDesk = some sp_sameDesk) : Verified T ir_reredoskeep_BeginNew sp_BeginNew := by
  refine Verified.mk ?_
  rintro ds ⟨s, l, room, rfl, hs, hl, hrm⟩
  have hF : sp_BeginNew.F [.int .i64 s, rawsD l, .int .i64 room] = .bool true := rfl
  rw [hF]
  have x1 : sp_two.hx = none := rfl
  have x2 : sp_picked.hx = none := rfl
  have x3 : sp_Desk.hx = none := rfl
  have x4 : sp_Call.hx = none := rfl
  have x5 : sp_sameDesk.hx = none := rfl
  have bS := pk_bounds s 3 (by decide)
  have f1 := two_F s
  have p1 := two_pre hs
  have hS : 1 ≤ 1 + pk s 3 ∧ 1 + pk s 3 ≤ 4 := by omega
  generalize 1 + pk s 3 = S at f1 hS
  have f2 := picked_F room 1200
  have p2 := picked_pre hrm (by decide : (0 : Int) < 1200)
  have bR := pk_bounds room 1200 (by decide)
  generalize pk room 1200 = n at f2 bR
  have f3 := desk2_F S 1 0 l 30
  have p3 := desk2_pre hS (l := 1) (me := 0) (by omega) (by omega) hl (k := 30) (by omega)
  have hok := okHd_2 hS (l := 1) (me := 0) (by omega) (by omega)
  have hd := dkO_desk hok (l.take 30)
  have hn := desk_next (hd2 S 1 0) (l.take 30)
  have hll : (l.take 30).length ≤ 30 := by simp; omega
  generalize (l.take 30).length = q at hn hll
  have hfew := dkO_few hok hd
  generalize deskT (hd2 S 1 0) (l.take 30) = d at f3 hd hn hfew
  have hb := beg2 hS (l := 1) (me := 0) (by omega) (by omega) hd
  have f4 := call2_F S 1 0 d n ⟨1, 0, 0, 0, 0⟩
  have p4 := call2_pre S 1 0 n ⟨1, 0, 0, 0, 0⟩ hfew
  have hc : callT (hd2 S 1 0) d.1 d.2 n ⟨1, 0, 0, 0, 0⟩ = (begW (hd2 S 1 0) (wdN d.1 d.2) n, 0) := by
    rw [callT_ok n hb (by simp only; omega), callW, if_pos rfl]
  rw [hc] at f4
  have hn1 := hd.n1
  have e30 : ((30 : Nat) : Int) = 30 := rfl
  by_cases c : d.2.length = 6 ∨ n < 600
  · have hw : begW (hd2 S 1 0) (wdN d.1 d.2) n = ⟨d.1, 0, 0, d.2, [], [], [rpC ⟨0, 1, 0, 0, 0, 8⟩]⟩ := by
      unfold begW
      rw [if_pos (by simp only [wdN]; rcases c with c | c; exact Or.inl c; exact Or.inr (Or.inr c))]; rfl
    rw [hw] at f4
    have f5 := sameDesk_F d d
    rw [decide_eq_true rfl] at f5
    have p5 := sameDesk_pre hfew hfew
    obtain ⟨dn, dj⟩ := d
    simp only [cfgD, dkD, dkC, rawsD, e30, clC, trnC, rpC, List.map_nil] at f1 p1 f3 p3 f4 p4 f5 p5 c ⊢
    by_cases c1 : (dj.length : Int) = 6
    · simp (implicitDefEqProofs := false) (maxSteps := 10000000) [ir_reredoskeep_BeginNew, h1, x1, f1, p1, h2, x2, f2, p2, h3, x3, f3, p3, h4, x4, f4, p4, h5, x5, f5, p5, c1]
    · have c2 : n < 600 := by omega
      simp (implicitDefEqProofs := false) (maxSteps := 10000000) [ir_reredoskeep_BeginNew, h1, x1, f1, p1, h2, x2, f2, p2, h3, x3, f3, p3, h4, x4, f4, p4, h5, x5, f5, p5, c1, c2]
  · have hw : begW (hd2 S 1 0) (wdN d.1 d.2) n = ⟨d.1 + 1, 0, 0, d.2 ++ [⟨d.1, 1, [], [], 0, 0⟩], [], [recC ⟨5, 0, d.1, 0, 0, 0, false, []⟩], [rpC ⟨0, 1, d.1, 0, 0, 0⟩]⟩ := by
      unfold begW
      rw [if_neg (by simp only [wdN]; omega)]; rfl
    rw [hw] at f4
    obtain ⟨dn, dj⟩ := d
    simp only at hn hn1 c
    have c1 : ¬ (dj.length : Int) = 6 := by omega
    have c2 : ¬ n < 600 := by omega
    have i1 : inR .i64 (dn + 1) := by simp only [inR]; omega
    simp only [cfgD, dkD, dkC, rawsD, e30, clC, trnC, rpC, recC, List.map_nil] at f1 p1 f3 p3 f4 p4 ⊢
    simp (implicitDefEqProofs := false) (maxSteps := 10000000) [ir_reredoskeep_BeginNew, h1, x1, f1, p1, h2, x2, f2, p2, h3, x3, f3, p3, h4, x4, f4, p4, i1, c1, c2]
end
end Go.Proofs.YtchbnpjegacobaaDoor
