/-
  No acts have two forms: the law's function says so. Conditions: those of its specification's 'pre', and that the functions that are called are what theirs say.
-/
import Derived.Test.YthiggepiihoooaaDoorLnH
set_option linter.unusedVariables false
set_option linter.unusedSimpArgs false
namespace Go.Proofs.YthiggepiihoooaaDoor
open Go Go.Vcg

def tickB : Ac := ⟨5, 0, 0, 0, 0, [], c0, []⟩
def tackS : List UInt8 := [116, 105, 99, 107, 10, 116, 97, 99, 107, 10]
theorem tick_ok {S : Int} {L : Nat} (hS : 1 ≤ S) (hL : 1 ≤ L) : actE S L tickB = 0 := by
  refine actE_ok ⟨by decide, by decide⟩ ⟨by decide, ?_, by decide, ?_, by decide, ?_, by decide, by decide, ?_, by decide, by decide⟩ ?_ (fun h => absurd h (by decide))
  · show (0 : Int) < S; omega
  · show (0 : Int) < S; omega
  · show (0 : Int) < L; omega
  · show 0 ≤ L; omega
  · simp [bareB, tickB, zeroC, c0]
theorem tack_no : oneL [116, 97, 99, 107] = (a0, false) := by
  unfold oneL
  rw [split_last (by decide)]
  rfl
theorem read_tack {S : Int} {L : Nat} (hS : 1 ≤ S ∧ S ≤ 1000) (hL : 1 ≤ L ∧ L ≤ 1000) : readL S L tackS = ([], 1, 4) := by
  have e : tackS = linesOf [tickB] ++ [116, 97, 99, 107, 10] := by decide
  have hok : ∀ a ∈ [tickB], actE S L a = 0 := by intro a ha; rw [List.mem_singleton.1 ha]; exact tick_ok hS.1 hL.1
  rw [e, readL_lines hok (by decide) hS.2 hL.2]
  have e2 : ([116, 97, 99, 107, 10] : List UInt8) = [116, 97, 99, 107] ++ 10 :: [] := rfl
  have e3 : 3001 - [tickB].length = 2999 + 1 := rfl
  rw [e3, readF, e2, cut_at _ (by decide), if_neg (by simp), if_neg (by decide), tack_no]
  simp
def sp_LinesFixed : Sp := { pre := fun ds => ∃ (s : Int) (ns : List Int) (t : List UInt8), ds = [.int .i64 s, intsD ns, .str t] ∧ inR .i64 s ∧ okInts ns ∧ t.length ≤ 4000000, F := fun _ => .bool true }
section
variable {T : Tb}
attribute [local simp] k_seq k_block k_skip k_reg k_alt k_cond k_exit k_ret kf_nil kf_seq_n kf_seq_e kf_seq_r kf_blk_n kf_blk_e kf_blk_r kf_lp_n kf_lp_e kf_lp_r kf_cut_n kf_cut_e kf_cut_r mkTm VCops VCalt istep act gd applyE wrapD Opd.ev get_mk set_mk set_mk0 tget16 tset16 tget_0 tset_0 tget_1 tset_1 tget_2 tset_2 tget_3 tset_3 tget_4 tset_4 tget_5 tset_5 tget_6 tset_6 tget_7 tset_7 tget_8 tset_8 tget_9 tset_9 tget_10 tset_10 tget_11 tset_11 tget_12 tset_12 tget_13 tset_13 tget_14 tset_14 tget_15 tset_15 D.un D.gu gus IOp.opds binD fnPost getRes IRes.get oneRes D.out outL D.clos closL D.norow norowL D.lv lvL D.scal scalL D.cells D.cell D.cell' St.lk obPut obDel List.lookup cut pickD splice fillParts fillRows elem_cons newsOf D.pl D.forget forgetL Ob.forget forgetO eqCells sg leD leDL leOb apartK St.le D.keys keysL D.rows rowsL obKeys addKeys reach pos D.ren renL Ob.ren inM outM inObs outObs goneK apartN okNames_eq okNms obNms namesOK_nil namesOK_cons freeOK_nil freeOK_cons D.frz frzL Ob.frz frzO St.frz forgetLs dropObs putObs hcall freeOf keeps baseN shD isShift shMax k_bad VCopsG frz_nil actx actc cnum vwCut St.frzT St.opnT St.clsT D.opn opnL Ob.opn opnO VCou VCcx St.oneS D.objI D.objK scrL D.scr St.opnS St.clsS D.cellS D.fzs fzsL k_mrk k_mrq IOper.gh
set_option maxRecDepth 100000 in
set_option maxHeartbeats 8000000 in
theorem v_LinesFixed (h1 : T.sp n_reredoskeep_Config = some sp_Config) (h3 : T.sp n_lines_Show = some sp_Show) (h4 : T.sp n_lines_Read = some sp_LRead) : Verified T ir_reredoskeep_LinesFixed sp_LinesFixed := by
  refine Verified.mk ?_
  rintro ds ⟨s, ns, t, rfl, hs, hns, ht⟩
  have hF : sp_LinesFixed.F [.int .i64 s, intsD ns, .str t] = .bool true := rfl
  rw [hF]
  have x1 : sp_Config.hx = none := rfl
  have x3 : sp_Show.hx = none := rfl
  have x4 : sp_LRead.hx = none := rfl
  have b1 := pk_bounds s 3 (by decide)
  have b2 := pk_bounds 1 4 (by decide)
  have f1 : sp_Config.F [.int .i64 s, intsD ns, .int .i64 1] = cfgD (1 + pk s 3) (cfgLs ns) (1 + pk 1 4) := by simp only [sp_Config, intsOf_intsD]
  have p1 : sp_Config.pre [.int .i64 s, intsD ns, .int .i64 1] = True := by simp only [sp_Config, eq_iff_iff, iff_true]; exact ⟨s, ns, 1, rfl, hs, hns, by simp only [inR]; omega⟩
  have hck := check_config (pk s 3) (pk 1 4) ns b1 b2
  have hlg := cfgLs_good ns
  obtain ⟨_, _, hg1, hg2⟩ := hlg
  have hS : 1 ≤ 1 + pk s 3 ∧ 1 + pk s 3 ≤ 4 := by omega
  generalize 1 + pk s 3 = S at f1 hck hS
  generalize 1 + pk 1 4 = P at f1 hck
  generalize cfgLs ns = ls at f1 hck hg1 hg2
  have f4 := lread_F S ls P t
  have p4 := lread_pre (S := S) (ls := ls) (P := P) (s := t) hck ht
  have f5 := lread_F S ls P tackS
  rw [read_tack (by omega) (by omega)] at f5
  have p5 := lread_pre (S := S) (ls := ls) (P := P) (s := tackS) hck (by decide)
  rcases readL_inv (S := S) (L := ls.length) t with ⟨g1, g2⟩ | ⟨g1, g2, g3, g4, g5⟩
  · rw [g2] at f4
    generalize (readL S ls.length t).2.1 = i at f4
    generalize (readL S ls.length t).2.2 = e at f4 g1
    generalize hcs : ls.map lbc = cs
    simp only [cfgD, hcs, intsD, tackS, List.map_nil] at f1 p1 f4 p4 f5 p5 ⊢
    simp (implicitDefEqProofs := false) (maxSteps := 10000000) [ir_reredoskeep_LinesFixed, h1, x1, f1, p1, h4, x4, f4, p4, f5, p5, g1]
    done
  · rw [g1, g2] at f4
    generalize hlx : (readL S ls.length t).1 = lx at f4 g3 g4 g5
    have f3 := show_F S ls P lx
    have p3 := show_pre (P := P) (l := lx) hck g4 (good_acts' (by omega) g5) (by omega) (by omega)
    rw [g3] at f3
    generalize lx.map actC = es at f3 p3 f4
    generalize hcs : ls.map lbc = cs
    simp only [cfgD, hcs, intsD, tackS, List.map_nil] at f1 p1 f4 p4 f5 p5 f3 p3 ⊢
    simp (implicitDefEqProofs := false) (maxSteps := 10000000) [ir_reredoskeep_LinesFixed, h1, x1, f1, p1, h4, x4, f4, p4, f5, p5, h3, x3, f3, p3]
    done
end
end Go.Proofs.YthiggepiihoooaaDoor
