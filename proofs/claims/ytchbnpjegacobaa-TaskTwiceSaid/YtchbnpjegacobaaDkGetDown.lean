/-
  One reads what is below, and writes at one's own label alone: the law's function says so. Conditions: those of its specification's 'pre', and that the functions that are called are what theirs say.
-/
import Derived.Test.YtchbnpjegacobaaDkOne
set_option linter.unusedVariables false
set_option linter.unusedSimpArgs false
namespace Go.Proofs.Ytchbnpjegacobaa
open Go Go.Vcg

def sp_GetDown : Sp := { pre := fun ds => ∃ (s l key : Int), ds = [.int .i64 s, .int .i64 l, .int .i64 key] ∧ inR .i64 s ∧ inR .i64 l ∧ inR .i64 key, F := fun _ => .bool true }
section
variable {T : Tb}
attribute [local simp] k_seq k_block k_skip k_reg k_alt k_cond k_exit k_ret kf_nil kf_seq_n kf_seq_e kf_seq_r kf_blk_n kf_blk_e kf_blk_r kf_lp_n kf_lp_e kf_lp_r kf_cut_n kf_cut_e kf_cut_r mkTm VCops VCalt istep act gd applyE wrapD Opd.ev get_mk set_mk set_mk0 tget16 tset16 tget_0 tset_0 tget_1 tset_1 tget_2 tset_2 tget_3 tset_3 tget_4 tset_4 tget_5 tset_5 tget_6 tset_6 tget_7 tset_7 tget_8 tset_8 tget_9 tset_9 tget_10 tset_10 tget_11 tset_11 tget_12 tset_12 tget_13 tset_13 tget_14 tset_14 tget_15 tset_15 D.un D.gu gus IOp.opds binD fnPost getRes IRes.get oneRes D.out outL D.clos closL D.norow norowL D.lv lvL D.scal scalL D.cells D.cell D.cell' St.lk obPut obDel List.lookup cut pickD splice fillParts fillRows elem_cons newsOf D.pl D.forget forgetL Ob.forget forgetO eqCells sg leD leDL leOb apartK St.le D.keys keysL D.rows rowsL obKeys addKeys reach pos D.ren renL Ob.ren inM outM inObs outObs goneK apartN okNames_eq okNms obNms namesOK_nil namesOK_cons freeOK_nil freeOK_cons D.frz frzL Ob.frz frzO St.frz forgetLs dropObs putObs hcall freeOf keeps baseN shD isShift shMax k_bad VCopsG frz_nil actx actc cnum vwCut St.frzT St.opnT St.clsT D.opn opnL Ob.opn opnO VCou VCcx St.oneS D.objI D.objK scrL D.scr St.opnS St.clsS D.cellS D.fzs fzsL k_mrk k_mrq IOper.gh
set_option maxRecDepth 100000 in
set_option maxHeartbeats 16000000 in
theorem v_GetDown (h1 : T.sp n_reredoskeep_two = some sp_two) (h2 : T.sp n_reredoskeep_picked = some sp_picked) (h3 : T.sp n_coord_Call = some sp_Call) : Verified T ir_reredoskeep_GetDown sp_GetDown := by
  refine Verified.mk ?_
  rintro ds ⟨s, l, key, rfl, hs, hl, hkey⟩
  have hF : sp_GetDown.F [.int .i64 s, .int .i64 l, .int .i64 key] = .bool true := rfl
  rw [hF]
  have x1 : sp_two.hx = none := rfl
  have x2 : sp_picked.hx = none := rfl
  have x3 : sp_Call.hx = none := rfl
  have bS := pk_bounds s 3 (by decide)
  have f1 := two_F s
  have p1 := two_pre hs
  have hS : 1 ≤ 1 + pk s 3 ∧ 1 + pk s 3 ≤ 4 := by omega
  generalize 1 + pk s 3 = S at f1 hS
  have f2 := picked_F key 8
  have p2 := picked_pre hkey (by decide : (0 : Int) < 8)
  have hk := pk_bounds key 8 (by decide)
  generalize pk key 8 = k at f2 hk
  have f6 := picked_F l 2
  have p6 := picked_pre hl (by decide : (0 : Int) < 2)
  have hlb := pk_bounds l 2 (by decide)
  generalize pk l 2 = lb at f6 hlb
  have f3 := call2_F S 0 0 (1, []) 6000 ⟨1, 0, 0, 0, 0⟩
  have p3 := call2_pre S 0 0 (d := (1, [])) 6000 ⟨1, 0, 0, 0, 0⟩ ⟨by simp, by simp⟩
  have e3 := one_begin hS (l := 0) (by omega)
  simp only at f3
  rw [e3] at f3
  have hfew : fewD (2, [oneJ []]) := dkO_few (okHd_2 hS (l := 0) (me := 0) (by omega) (by omega)) (begun_dk hS (l := 0) (by omega))
  have f4 := call2_F S 0 0 (2, [oneJ []]) 6000 ⟨2, 1, 1, k, 0⟩
  have p4 := call2_pre S 0 0 6000 ⟨2, 1, 1, k, 0⟩ hfew
  have e4 := up_refused hS hk
  simp only at f4
  rw [e4] at f4
  have f5 := call2_F S 1 0 (2, [oneJ []]) 6000 ⟨2, 1, lb, k, 0⟩
  have p5 := call2_pre S 1 0 6000 ⟨2, 1, lb, k, 0⟩ hfew
  have hbl : ¬ badL (hd2 S 1 0) ⟨2, 1, lb, k, 0⟩ := by
    rintro ⟨_, h | h | h⟩
    · simp only at h; omega
    · have e : (hd2 S 1 0).ls.length = 2 := rfl
      rw [e] at h; simp only at h; omega
    · have h01 : lb = 0 ∨ lb = 1 := by omega
      rcases h01 with rfl | rfl
      · exact absurd h (by show ¬ above (1, 0) (0, 0) = false; decide)
      · exact absurd h (by show ¬ above (1, 0) (1, 0) = false; decide)
  have e5 := first_call hS (l := 1) (by omega) (x := ⟨2, 1, lb, k, 0⟩) (Or.inl rfl) rfl (by simp only [badR]; omega) hbl
  simp only at f5 e5
  rw [e5] at f5
  rw [if_pos trivial, if_pos trivial] at f5
  have hS0 : ¬ S = 0 := by omega
  simp only [cfgD, dkD, dkC, clC, trnC, rpC, recC, msgC, List.map_nil, List.map_cons] at f1 p1 f3 p3 f4 p4 f5 p5 ⊢
  simp (implicitDefEqProofs := false) (maxSteps := 10000000) [ir_reredoskeep_GetDown, h1, x1, f1, p1, h2, x2, f2, p2, f6, p6, h3, x3, f3, p3, f4, p4, f5, p5, hS0]
  done
end
end Go.Proofs.Ytchbnpjegacobaa
