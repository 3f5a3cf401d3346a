/-
  Whatever is called and heard, a desk stays one that may be: the law's function does so. Conditions: those of its specification's 'pre', and that the functions that are called are what theirs say.
-/
import Derived.Test.YtchbnpjegacobaaDoorDkC
import Derived.Test.YtchbnpjegacobaaDoorIrDeskGood
set_option linter.unusedVariables false
set_option linter.unusedSimpArgs false
namespace Go.Proofs.YtchbnpjegacobaaDoor
open Go Go.Vcg

def sp_DeskGood : Sp := { pre := fun ds => ∃ (s : Int) (l : List Rw) (me : Int), ds = [.int .i64 s, rawsD l, .int .i64 me] ∧ inR .i64 s ∧ okRaws l ∧ inR .i64 me, F := fun _ => .bool true }
section
variable {T : Tb}
attribute [local simp] k_seq k_block k_skip k_reg k_alt k_cond k_exit k_ret kf_nil kf_seq_n kf_seq_e kf_seq_r kf_blk_n kf_blk_e kf_blk_r kf_lp_n kf_lp_e kf_lp_r kf_cut_n kf_cut_e kf_cut_r mkTm VCops VCalt istep act gd applyE wrapD Opd.ev get_mk set_mk set_mk0 tget16 tset16 tget_0 tset_0 tget_1 tset_1 tget_2 tset_2 tget_3 tset_3 tget_4 tset_4 tget_5 tset_5 tget_6 tset_6 tget_7 tset_7 tget_8 tset_8 tget_9 tset_9 tget_10 tset_10 tget_11 tset_11 tget_12 tset_12 tget_13 tset_13 tget_14 tset_14 tget_15 tset_15 D.un D.gu gus IOp.opds binD fnPost getRes IRes.get oneRes D.out outL D.clos closL D.norow norowL D.lv lvL D.scal scalL D.cells D.cell D.cell' St.lk obPut obDel List.lookup cut pickD splice fillParts fillRows elem_cons newsOf D.pl D.forget forgetL Ob.forget forgetO eqCells sg leD leDL leOb apartK St.le D.keys keysL D.rows rowsL obKeys addKeys reach pos D.ren renL Ob.ren inM outM inObs outObs goneK apartN okNames_eq okNms obNms namesOK_nil namesOK_cons freeOK_nil freeOK_cons D.frz frzL Ob.frz frzO St.frz forgetLs dropObs putObs hcall freeOf keeps baseN shD isShift shMax k_bad VCopsG frz_nil actx actc cnum vwCut St.frzT St.opnT St.clsT D.opn opnL Ob.opn opnO VCou VCcx St.oneS D.objI D.objK scrL D.scr St.opnS St.clsS D.cellS D.fzs fzsL k_mrk k_mrq IOper.gh
set_option maxRecDepth 100000 in
set_option maxHeartbeats 16000000 in
theorem v_DeskGood (h1 : T.sp n_reredoskeep_two = some sp_two) (h2 : T.sp n_reredoskeep_picked = some sp_picked) (h3 : T.sp n_reredoskeep_Desk = some sp_Desk) (h4 : T.sp n_coord_Check = some sp_CCheck) : Verified T ir_reredoskeep_DeskGood sp_DeskGood := by
  refine Verified.mk ?_
  rintro ds ⟨s, l, me, rfl, hs, hl, hme⟩
  have hF : sp_DeskGood.F [.int .i64 s, rawsD l, .int .i64 me] = .bool true := rfl
  rw [hF]
  have x1 : sp_two.hx = none := rfl
  have x2 : sp_picked.hx = none := rfl
  have x3 : sp_Desk.hx = none := rfl
  have x4 : sp_CCheck.hx = none := rfl
  have bS := pk_bounds s 3 (by decide)
  have f1 := two_F s
  have p1 := two_pre hs
  have hS : 1 ≤ 1 + pk s 3 ∧ 1 + pk s 3 ≤ 4 := by omega
  generalize 1 + pk s 3 = S at f1 hS
  have bM := pk_bounds me S (by omega)
  have f2 := picked_F me S
  have p2 := picked_pre hme (m := S) (by omega)
  generalize pk me S = M at bM f2
  have f3 := desk2_F S 1 M l 40
  have p3 := desk2_pre hS (l := 1) (by omega) bM hl (k := 40) (by omega)
  have hd := dkO_desk (okHd_2 hS (l := 1) (by omega) bM) (l.take 40)
  have hn := hd.n1
  have hfew := dkO_few (okHd_2 hS (l := 1) (by omega) bM) hd
  generalize deskT (hd2 S 1 M) (l.take 40) = d at f3 hd hn hfew
  have f4 := chk2_F S d.1 d.2
  rw [chk2_zero hS hd] at f4
  have p4 := chk2_pre S hfew
  have f5 := chk2_F S 0 []
  rw [chk2_nine hS] at f5
  have p5 := chk2_pre S (d := (0, [])) ⟨by simp, by simp⟩
  have hn' : 0 < d.1 := by omega
  have e40 : ((40 : Nat) : Int) = 40 := rfl
  obtain ⟨dn, dj⟩ := d
  simp only at hn'
  simp only [cfgD, dkD, dkC, rawsD, e40, List.map_nil] at f1 p1 f3 p3 f4 p4 f5 p5 ⊢
  simp (implicitDefEqProofs := false) (maxSteps := 10000000) [ir_reredoskeep_DeskGood, h1, x1, f1, p1, h2, x2, f2, p2, h3, x3, f3, p3, h4, x4, f4, p4, f5, p5, hn']
end
end Go.Proofs.YtchbnpjegacobaaDoor
