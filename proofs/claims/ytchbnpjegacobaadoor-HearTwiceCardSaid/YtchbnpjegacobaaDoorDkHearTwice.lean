/-
  An answer counts once: the same again changes nothing, and nobody is replied: the law's function says so. Conditions: those of its specification's 'pre', and that the functions that are called are what theirs say.
-/
import Derived.Test.YtchbnpjegacobaaDoorDkF
import Derived.Test.YtchbnpjegacobaaDoorDkA
import Derived.Test.YtchbnpjegacobaaDoorIrHearTwice
set_option linter.unusedVariables false
set_option linter.unusedSimpArgs false
namespace Go.Proofs.YtchbnpjegacobaaDoor
open Go Go.Vcg

def sp_HearTwice : Sp := { pre := fun ds => ∃ (s : Int) (l : List Rw) (r : Rw), ds = [.int .i64 s, rawsD l, rawD r] ∧ inR .i64 s ∧ okRaws l ∧ okRaw r, F := fun _ => .bool true }
section
variable {T : Tb}
attribute [local simp] k_seq k_block k_skip k_reg k_alt k_cond k_exit k_ret kf_nil kf_seq_n kf_seq_e kf_seq_r kf_blk_n kf_blk_e kf_blk_r kf_lp_n kf_lp_e kf_lp_r kf_cut_n kf_cut_e kf_cut_r mkTm VCops VCalt istep act gd applyE wrapD Opd.ev get_mk set_mk set_mk0 tget16 tset16 tget_0 tset_0 tget_1 tset_1 tget_2 tset_2 tget_3 tset_3 tget_4 tset_4 tget_5 tset_5 tget_6 tset_6 tget_7 tset_7 tget_8 tset_8 tget_9 tset_9 tget_10 tset_10 tget_11 tset_11 tget_12 tset_12 tget_13 tset_13 tget_14 tset_14 tget_15 tset_15 D.un D.gu gus IOp.opds binD fnPost getRes IRes.get oneRes D.out outL D.clos closL D.norow norowL D.lv lvL D.scal scalL D.cells D.cell D.cell' St.lk obPut obDel List.lookup cut pickD splice fillParts fillRows elem_cons newsOf D.pl D.forget forgetL Ob.forget forgetO eqCells sg leD leDL leOb apartK St.le D.keys keysL D.rows rowsL obKeys addKeys reach pos D.ren renL Ob.ren inM outM inObs outObs goneK apartN okNames_eq okNms obNms namesOK_nil namesOK_cons freeOK_nil freeOK_cons D.frz frzL Ob.frz frzO St.frz forgetLs dropObs putObs hcall freeOf keeps baseN shD isShift shMax k_bad VCopsG frz_nil actx actc cnum vwCut St.frzT St.opnT St.clsT D.opn opnL Ob.opn opnO VCou VCcx St.oneS D.objI D.objK scrL D.scr St.opnS St.clsS D.cellS D.fzs fzsL k_mrk k_mrq IOper.gh
set_option maxRecDepth 100000 in
set_option maxHeartbeats 16000000 in
theorem v_HearTwice (h1 : T.sp n_reredoskeep_two = some sp_two) (h2 : T.sp n_reredoskeep_coordTells = some sp_tells) (h3 : T.sp n_reredoskeep_Desk = some sp_Desk) (h4 : T.sp n_coord_Check = some sp_CCheck) (h5 : T.sp n_reredoskeep_Message = some sp_Message) (h6 : T.sp n_coord_Hear = some sp_Hear) (h7 : T.sp n_reredoskeep_sameDesk = some sp_sameDesk) : Verified T ir_reredoskeep_HearTwice sp_HearTwice := by
  refine Verified.mk ?_
  rintro ds ⟨s, l, r, rfl, hs, hl, hr⟩
  have hF : sp_HearTwice.F [.int .i64 s, rawsD l, rawD r] = .bool true := rfl
  rw [hF]
  have x1 : sp_two.hx = none := rfl
  have x2 : sp_tells.hx = none := rfl
  have x3 : sp_Desk.hx = none := rfl
  have x4 : sp_CCheck.hx = none := rfl
  have x5 : sp_Message.hx = none := rfl
  have x6 : sp_Hear.hx = none := rfl
  have x7 : sp_sameDesk.hx = none := rfl
  have f2 : sp_tells.F [] = .bool true := rfl
  have p2 : sp_tells.pre [] = True := by simp only [sp_tells]
  have bS := pk_bounds s 3 (by decide)
  have f1 := two_F s
  have p1 := two_pre hs
  have hS : 1 ≤ 1 + pk s 3 ∧ 1 + pk s 3 ≤ 4 := by omega
  generalize 1 + pk s 3 = S at f1 hS
  have f3 := desk2_F S 1 0 l 30
  have p3 := desk2_pre hS (l := 1) (me := 0) (by omega) (by omega) hl (k := 30) (by omega)
  have hok := okHd_2 hS (l := 1) (me := 0) (by omega) (by omega)
  have hd := dkO_desk hok (l.take 30)
  generalize deskT (hd2 S 1 0) (l.take 30) = d at f3 hd
  have hfew := dkO_few hok hd
  have e30 : ((30 : Nat) : Int) = 30 := rfl
  have f4 := chk2_F S d.1 d.2
  rw [chk2_zero hS hd] at f4
  have p4 := chk2_pre S hfew
  have f5 : sp_Message.F [cfgD S ls2 3, .agg (rawC r)] = .agg (msgC (mkMsg S 2 r)) := by
    have e : rawOf (.agg (rawC r)) = r := rfl
    simp only [sp_Message, cfgOf_cfgD, e]; rfl
  have p5 : sp_Message.pre [cfgD S ls2 3, .agg (rawC r)] = True := by
    simp only [sp_Message, eq_iff_iff, iff_true]
    exact ⟨_, r, rfl, ⟨isCfg_mk S ls2 3, by simp only [cfgOf_cfgD]; omega, by simp only [cfgOf_cfgD]; omega, by simp only [cfgOf_cfgD]; decide, by simp only [cfgOf_cfgD]; decide⟩, hr⟩
  have hmk := msg_ok hS r
  have hkd := mkMsg_kind S 2 r
  have hkk : (hearM (hd2 S 1 0) r).kind = (mkMsg S 2 r).kind := rfl
  have hM : msgC (hearM (hd2 S 1 0) r) = msgC ⟨(mkMsg S 2 r).kind, (mkMsg S 2 r).frm, 0, 0, (mkMsg S 2 r).n, (mkMsg S 2 r).label, (mkMsg S 2 r).key, (mkMsg S 2 r).value, (mkMsg S 2 r).version, (mkMsg S 2 r).ask, (mkMsg S 2 r).yes, (mkMsg S 2 r).code⟩ := rfl
  by_cases c : (mkMsg S 2 r).kind < 5 ∨ (mkMsg S 2 r).kind = 9
  · generalize mkMsg S 2 r = m at f5 c
    clear hmk hkd hkk hM
    obtain ⟨dn, dj⟩ := d
    obtain ⟨m1, m2, m3, m4, m5, m6, m7, m8, m9, m10, m11, m12⟩ := m
    simp only at c
    simp only [cfgD, dkD, dkC, rawsD, rawD, rawC, e30, msgC] at f1 p1 f3 p3 f4 p4 f5 p5 ⊢
    by_cases c1 : m1 < 5
    · simp (implicitDefEqProofs := false) (maxSteps := 10000000) [ir_reredoskeep_HearTwice, h1, x1, f1, p1, h2, x2, f2, p2, h3, x3, f3, p3, h4, x4, f4, p4, h5, x5, f5, p5, c1]
    · have c2 : m1 = 9 := by omega
      subst c2
      simp (implicitDefEqProofs := false) (maxSteps := 10000000) [ir_reredoskeep_HearTwice, h1, x1, f1, p1, h2, x2, f2, p2, h3, x3, f3, p3, h4, x4, f4, p4, h5, x5, f5, p5]
  · have c1 : ¬ (mkMsg S 2 r).kind < 5 := by omega
    have c2 : ¬ (mkMsg S 2 r).kind = 9 := by omega
    obtain ⟨js, su, co, ms, rs, rp, su2, ms2, e1, e2, hd2'⟩ := hear_twice hS hd hmk rfl rfl (by rw [hkk]; omega) (by rw [hkk]; exact c2)
    have f6 := hear2_F S 1 0 d (hearM (hd2 S 1 0) r)
    have p6 := hear2_pre S 1 0 (hearM (hd2 S 1 0) r) hfew
    have hfew2 := dkO_few hok hd2'
    have f8 := hear2_F S 1 0 (d.1, js) (hearM (hd2 S 1 0) r)
    have p8 := hear2_pre S 1 0 (hearM (hd2 S 1 0) r) hfew2
    rw [e1] at f6
    rw [e2] at f8
    rw [hM] at f6 p6 f8 p8
    have f7 := sameDesk_F (d.1, js) (d.1, js)
    rw [decide_eq_true rfl] at f7
    have p7 := sameDesk_pre hfew2 hfew2
    clear hmk hkd hkk hM e1 e2 hd2' hfew2
    generalize mkMsg S 2 r = m at f5 c1 c2 f6 p6 f8 p8
    obtain ⟨dn, dj⟩ := d
    obtain ⟨m1, m2, m3, m4, m5, m6, m7, m8, m9, m10, m11, m12⟩ := m
    simp only at c1 c2
    simp only [cfgD, dkD, dkC, rawsD, rawD, rawC, e30, msgC, trnC, List.map_nil] at f1 p1 f3 p3 f5 p5 f6 p6 f7 p7 f8 p8 ⊢
    simp (implicitDefEqProofs := false) (maxSteps := 10000000) [ir_reredoskeep_HearTwice, h1, x1, f1, p1, h2, x2, f2, p2, h3, x3, f3, p3, h5, x5, f5, p5, c1, c2, h6, x6, f6, p6, f8, p8, h7, x7, f7, p7]
    simp only [inR]; omega
end
end Go.Proofs.YtchbnpjegacobaaDoor
