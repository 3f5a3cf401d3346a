/-
  What is refused does nothing, and is replied at once: the law's function says so. Conditions: those of its specification's 'pre', and that the functions that are called are what theirs say.
-/
import Derived.Test.YtchbnpjegacobaaDoorDkD
import Derived.Test.YtchbnpjegacobaaDoorDkA
import Derived.Test.YtchbnpjegacobaaDoorIrCallRefused
set_option linter.unusedVariables false
set_option linter.unusedSimpArgs false
namespace Go.Proofs.YtchbnpjegacobaaDoor
open Go Go.Vcg

def sp_CallRefused : Sp := { pre := fun ds => ∃ (s : Int) (l : List Rw) (which n : Int), ds = [.int .i64 s, rawsD l, .int .i64 which, .int .i64 n] ∧ inR .i64 s ∧ okRaws l ∧ inR .i64 which ∧ inR .i64 n, F := fun _ => .bool true }
theorem refused {S : Int} (hS : 1 ≤ S ∧ S ≤ 4) {d : Int × List Jb} (hd : DkO (hd2 S 0 0) d) (x : Cl) (hk : 2 ≤ x.kind ∧ x.kind ≤ 5) (hx : x.n < 1 ∨ d.1 ≤ x.n) : callT (hd2 S 0 0) d.1 d.2 6000 x = (⟨d.1, 0, 0, d.2, [], [], [rpC ⟨0, x.kind, x.n, x.key, 0, 6⟩]⟩, 0) := by
  have hb := beg2 hS (l := 0) (me := 0) (by omega) (by omega) hd
  have hp : placeJ d.2 x.n = -1 := placeJ_none fun j hj => by
    have h1 := (hd.ok j hj).n1
    have h2 := (hd.ok j hj).n2
    omega
  have hr : refE (hd2 S 0 0) d.2 x = 6 := by
    unfold refE refP
    rw [hp, if_pos (by decide)]
  rw [callT_ok 6000 hb (by omega), callW, if_neg (by omega)]
  have hwj : (wdN d.1 d.2).js = d.2 := rfl
  rw [hwj, hr, if_neg (by decide)]
  rfl
theorem badKind {S : Int} (hS : 1 ≤ S ∧ S ≤ 4) {d : Int × List Jb} (hd : DkO (hd2 S 0 0) d) : callT (hd2 S 0 0) d.1 d.2 6000 ⟨6, 0, 0, 0, 0⟩ = (wd0, 3) := by
  have hb := beg2 hS (l := 0) (me := 0) (by omega) (by omega) hd
  have he : callE (hd2 S 0 0) d.1 d.2 ⟨6, 0, 0, 0, 0⟩ = 3 := by
    unfold callE
    rw [if_neg (fun e => e hb), if_pos (Or.inr (by simp only; omega))]
  unfold callT
  rw [he, if_neg (by decide)]
section
variable {T : Tb}
attribute [local simp] k_seq k_block k_skip k_reg k_alt k_cond k_exit k_ret kf_nil kf_seq_n kf_seq_e kf_seq_r kf_blk_n kf_blk_e kf_blk_r kf_lp_n kf_lp_e kf_lp_r kf_cut_n kf_cut_e kf_cut_r mkTm VCops VCalt istep act gd applyE wrapD Opd.ev get_mk set_mk set_mk0 tget16 tset16 tget_0 tset_0 tget_1 tset_1 tget_2 tset_2 tget_3 tset_3 tget_4 tset_4 tget_5 tset_5 tget_6 tset_6 tget_7 tset_7 tget_8 tset_8 tget_9 tset_9 tget_10 tset_10 tget_11 tset_11 tget_12 tset_12 tget_13 tset_13 tget_14 tset_14 tget_15 tset_15 D.un D.gu gus IOp.opds binD fnPost getRes IRes.get oneRes D.out outL D.clos closL D.norow norowL D.lv lvL D.scal scalL D.cells D.cell D.cell' St.lk obPut obDel List.lookup cut pickD splice fillParts fillRows elem_cons newsOf D.pl D.forget forgetL Ob.forget forgetO eqCells sg leD leDL leOb apartK St.le D.keys keysL D.rows rowsL obKeys addKeys reach pos D.ren renL Ob.ren inM outM inObs outObs goneK apartN okNames_eq okNms obNms namesOK_nil namesOK_cons freeOK_nil freeOK_cons D.frz frzL Ob.frz frzO St.frz forgetLs dropObs putObs hcall freeOf keeps baseN shD isShift shMax k_bad VCopsG frz_nil actx actc cnum vwCut St.frzT St.opnT St.clsT D.opn opnL Ob.opn opnO VCou VCcx St.oneS D.objI D.objK scrL D.scr St.opnS St.clsS D.cellS D.fzs fzsL k_mrk k_mrq IOper.gh
set_option maxRecDepth 100000 in
set_option maxHeartbeats 16000000 in
theorem v_CallRefused (h1 : T.sp n_reredoskeep_two = some sp_two) (h2 : T.sp n_reredoskeep_picked = some sp_picked) (h3 : T.sp n_reredoskeep_Desk = some sp_Desk) (h4 : T.sp n_coord_Call = some sp_Call) (h5 : T.sp n_reredoskeep_sameDesk = some sp_sameDesk) : Verified T ir_reredoskeep_CallRefused sp_CallRefused := by
  refine Verified.mk ?_
  rintro ds ⟨s, l, which, n, rfl, hs, hl, hwh, hnn⟩
  have hF : sp_CallRefused.F [.int .i64 s, rawsD l, .int .i64 which, .int .i64 n] = .bool true := rfl
  rw [hF]
  have x1 : sp_two.hx = none := rfl
  have x2 : sp_picked.hx = none := rfl
  have x3 : sp_Desk.hx = none := rfl
  have x4 : sp_Call.hx = none := rfl
  have x5 : sp_sameDesk.hx = none := rfl
  have bS := pk_bounds s 3 (by decide)
  have f1 := two_F s
  have p1 := two_pre hs
  have hS : 1 ≤ 1 + pk s 3 ∧ 1 + pk s 3 ≤ 4 := by omega
  generalize 1 + pk s 3 = S at f1 hS
  have f2 := picked_F n 9
  have p2 := picked_pre hnn (by decide : (0 : Int) < 9)
  have bN := pk_bounds n 9 (by decide)
  generalize pk n 9 = k at f2 bN
  have f6 := picked_F which 4
  have p6 := picked_pre hwh (by decide : (0 : Int) < 4)
  have bW := pk_bounds which 4 (by decide)
  generalize pk which 4 = w at f6 bW
  have f3 := desk2_F S 0 0 l 30
  have p3 := desk2_pre hS (l := 0) (me := 0) (by omega) (by omega) hl (k := 30) (by omega)
  have hok := okHd_2 hS (l := 0) (me := 0) (by omega) (by omega)
  have hd := dkO_desk hok (l.take 30)
  have hn := desk_next (hd2 S 0 0) (l.take 30)
  have hll : (l.take 30).length ≤ 30 := by simp; omega
  generalize (l.take 30).length = q at hn hll
  have hfew := dkO_few hok hd
  generalize deskT (hd2 S 0 0) (l.take 30) = d at f3 hd hn hfew
  have hn1 := hd.n1
  have e30 : ((30 : Nat) : Int) = 30 := rfl
  have f5 := sameDesk_F d d
  rw [decide_eq_true rfl] at f5
  have p5 := sameDesk_pre hfew hfew
  have f7 := call2_F S 0 0 d 6000 ⟨6, 0, 0, 0, 0⟩
  have p7 := call2_pre S 0 0 6000 ⟨6, 0, 0, 0, 0⟩ hfew
  rw [badKind hS hd] at f7
  have f4 := fun x hk hx => (call2_F S 0 0 d 6000 x).trans (by rw [refused hS hd x hk hx])
  have p4 := fun x => call2_pre S 0 0 6000 x hfew
  obtain ⟨dn, dj⟩ := d
  simp only at hn hn1 f4
  have i1 : inR .i64 (dn + k) := by simp only [inR]; omega
  have hw : w = 0 ∨ w = 1 ∨ w = 2 ∨ w = 3 := by omega
  have el : ∀ (a b c d : List D), elem [a, b, c, d] 0 = a ∧ elem [a, b, c, d] 1 = b ∧ elem [a, b, c, d] 2 = c ∧ elem [a, b, c, d] 3 = d := fun _ _ _ _ => ⟨rfl, rfl, rfl, rfl⟩
  rcases hw with rfl | rfl | rfl | rfl
  · replace f4 := f4 ⟨4, dn + k, 0, 0, 0⟩ (by simp only; omega) (by simp only; omega)
    replace p4 := p4 ⟨4, dn + k, 0, 0, 0⟩
    simp only [cfgD, dkD, dkC, rawsD, e30, clC, trnC, wd0, rpC, List.map_nil] at f1 p1 f3 p3 f4 p4 f5 p5 f7 p7 ⊢
    simp (implicitDefEqProofs := false) (maxSteps := 10000000) [ir_reredoskeep_CallRefused, h1, x1, f1, p1, h2, x2, f2, p2, f6, p6, h3, x3, f3, p3, h4, x4, f4, p4, f7, p7, h5, x5, f5, p5, i1, el]
    simp only [inR]; omega
  · replace f4 := f4 ⟨2, dn, 0, 1, 0⟩ (by simp only; omega) (by simp only; omega)
    replace p4 := p4 ⟨2, dn, 0, 1, 0⟩
    simp only [cfgD, dkD, dkC, rawsD, e30, clC, trnC, wd0, rpC, List.map_nil] at f1 p1 f3 p3 f4 p4 f5 p5 f7 p7 ⊢
    simp (implicitDefEqProofs := false) (maxSteps := 10000000) [ir_reredoskeep_CallRefused, h1, x1, f1, p1, h2, x2, f2, p2, f6, p6, h3, x3, f3, p3, h4, x4, f4, p4, f7, p7, h5, x5, f5, p5, i1, el]
    simp only [inR]; omega
  · replace f4 := f4 ⟨5, 0, 0, 0, 0⟩ (by simp only; omega) (by simp only; omega)
    replace p4 := p4 ⟨5, 0, 0, 0, 0⟩
    simp only [cfgD, dkD, dkC, rawsD, e30, clC, trnC, wd0, rpC, List.map_nil] at f1 p1 f3 p3 f4 p4 f5 p5 f7 p7 ⊢
    simp (implicitDefEqProofs := false) (maxSteps := 10000000) [ir_reredoskeep_CallRefused, h1, x1, f1, p1, h2, x2, f2, p2, f6, p6, h3, x3, f3, p3, h4, x4, f4, p4, f7, p7, h5, x5, f5, p5, i1, el]
    simp only [inR]; omega
  · replace f4 := f4 ⟨3, 1048576, 0, 1, 0⟩ (by simp only; omega) (by simp only; omega)
    replace p4 := p4 ⟨3, 1048576, 0, 1, 0⟩
    simp only [cfgD, dkD, dkC, rawsD, e30, clC, trnC, wd0, rpC, List.map_nil] at f1 p1 f3 p3 f4 p4 f5 p5 f7 p7 ⊢
    simp (implicitDefEqProofs := false) (maxSteps := 10000000) [ir_reredoskeep_CallRefused, h1, x1, f1, p1, h2, x2, f2, p2, f6, p6, h3, x3, f3, p3, h4, x4, f4, p4, f7, p7, h5, x5, f5, p5, i1, el]
    simp only [inR]; omega
end
end Go.Proofs.YtchbnpjegacobaaDoor
