/-
  Lines are read: lines.Read. Conditions: those of its specification's 'pre', and that the functions that are called are what theirs say.
-/
import Derived.Test.YthiggepiihoooaaDoorLnE
import Derived.Test.YthiggepiihoooaaDoorLnB
set_option linter.unusedVariables false
set_option linter.unusedSimpArgs false
namespace Go.Proofs.YthiggepiihoooaaDoor
open Go Go.Vcg

def sp_Cut : Sp := { pre := fun ds => ∃ (s : List UInt8) (c : UInt8), ds = [.str s, .str [c]] ∧ s.length ≤ 4000000, F := fun | [.str s, .str c] => .tup [.str (Lib.cut s c).1, .str (Lib.cut s c).2.1, .bool (Lib.cut s c).2.2] | _ => .any }
theorem cut_F (s : List UInt8) (c : UInt8) : sp_Cut.F [.str s, .str [c]] = .tup [.str (Lib.cut s [c]).1, .str (Lib.cut s [c]).2.1, .bool (Lib.cut s [c]).2.2] := rfl
theorem cut_pre {s : List UInt8} (c : UInt8) (h : s.length ≤ 4000000) : sp_Cut.pre [.str s, .str [c]] = True := by
  simp only [sp_Cut, eq_iff_iff, iff_true]; exact ⟨s, c, rfl, h⟩
def sp_LRead : Sp := {
  pre := fun ds => ∃ (S : Int) (ls : List (Int × Int)) (P : Int) (s : List UInt8), ds = [cfgD S ls P, .str s] ∧ check S ls P = 0 ∧ s.length ≤ 4000000
  F := fun | [x, .str s] => .tup [.fz 12 ((readL (cfgOf x).1 (cfgOf x).2.1.length s).1.map actC), .int .i64 (readL (cfgOf x).1 (cfgOf x).2.1.length s).2.1, .int .i64 (readL (cfgOf x).1 (cfgOf x).2.1.length s).2.2] | _ => .any }
theorem lread_F (S : Int) (ls : List (Int × Int)) (P : Int) (s : List UInt8) : sp_LRead.F [cfgD S ls P, .str s] = .tup [.fz 12 ((readL S ls.length s).1.map actC), .int .i64 (readL S ls.length s).2.1, .int .i64 (readL S ls.length s).2.2] := by
  simp only [sp_LRead, cfgOf_cfgD]
theorem lread_pre {S : Int} {ls : List (Int × Int)} {P : Int} {s : List UInt8} (h1 : check S ls P = 0) (h2 : s.length ≤ 4000000) : sp_LRead.pre [cfgD S ls P, .str s] = True := by
  simp only [sp_LRead, eq_iff_iff, iff_true]; exact ⟨S, ls, P, s, rfl, h1, h2⟩
theorem cut_len (s : List UInt8) (c : UInt8) : (Lib.cut s [c]).1.length ≤ s.length ∧ (Lib.cut s [c]).2.1.length ≤ s.length := by
  rcases cut_cases c s with ⟨_, h⟩ | ⟨l, r, _, h, h2⟩
  · rw [h]; simp
  · rw [h2, h]; simp; omega
theorem oneK_keep {k : Int} {ws : List (List UInt8)} {b : Bool} : (oneK k ws b).1.keep.length ≤ ws.length := by
  have hk : ∀ (ws : List (List UInt8)) (b : Bool), (keepL ws b).1.length ≤ ws.length := by
    intro ws
    induction ws with
    | nil => intro b; simp [keepL]
    | cons w r ih =>
      intro b
      cases b
      · simp only [keepL, List.length_cons]; have := ih (numL (w :: r) false).2.2; omega
      · simp [keepL]
  have hn : ∀ (ws : List (List UInt8)) (b : Bool), (numL ws b).2.1.length ≤ ws.length := by
    intro ws b; cases ws <;> simp [numL, nxtW]
  unfold oneK oneP oneC oneA oneT
  have h1 := hk (numL ws b).2.1 (numL ws b).2.2
  have h2 := hn ws b
  repeat' split
  all_goals simp only [List.length_nil]
  all_goals omega
theorem oneL_keep (s : List UInt8) : (oneL s).1.keep.length ≤ s.length := by
  have h1 := split_num 32 s
  unfold oneL oneW oneX
  split
  · simp [a0]
  · obtain ⟨w, ws, hs, _⟩ := split_join 32 s
    have h2 : (nxtW (Lib.split s [32]) false).2.1.length + 1 = (Lib.split s [32]).length := by rw [hs]; simp [nxtW]
    have := oneK_keep (k := idxW (wordsL.drop 1) (nxtW (Lib.split s [32]) false).1 + 1) (ws := (nxtW (Lib.split s [32]) false).2.1) (b := (nxtW (Lib.split s [32]) false).2.2)
    simp only
    omega

section
variable {T : Tb}
attribute [local simp] k_seq k_block k_skip k_reg k_alt k_cond k_exit k_ret kf_nil kf_seq_n kf_seq_e kf_seq_r kf_blk_n kf_blk_e kf_blk_r kf_lp_n kf_lp_e kf_lp_r kf_cut_n kf_cut_e kf_cut_r mkTm VCops VCalt istep act gd applyE wrapD Opd.ev get_mk set_mk set_mk0 tget16 tset16 tget_0 tset_0 tget_1 tset_1 tget_2 tset_2 tget_3 tset_3 tget_4 tset_4 tget_5 tset_5 tget_6 tset_6 tget_7 tset_7 tget_8 tset_8 tget_9 tset_9 tget_10 tset_10 tget_11 tset_11 tget_12 tset_12 tget_13 tset_13 tget_14 tset_14 tget_15 tset_15 D.un D.gu gus IOp.opds binD fnPost getRes IRes.get oneRes D.out outL D.clos closL D.norow norowL D.lv lvL D.scal scalL D.cells D.cell D.cell' St.lk obPut obDel List.lookup cut pickD splice fillParts fillRows elem_cons newsOf D.pl D.forget forgetL Ob.forget forgetO eqCells sg leD leDL leOb apartK St.le D.keys keysL D.rows rowsL obKeys addKeys reach pos D.ren renL Ob.ren inM outM inObs outObs goneK apartN okNames_eq okNms obNms namesOK_nil namesOK_cons freeOK_nil freeOK_cons D.frz frzL Ob.frz frzO St.frz forgetLs dropObs putObs hcall freeOf keeps baseN shD isShift shMax k_bad VCopsG frz_nil actx actc cnum vwCut St.frzT St.opnT St.clsT D.opn opnL Ob.opn opnO VCou VCcx St.oneS D.objI D.objK scrL D.scr St.opnS St.clsS D.cellS D.fzs fzsL k_mrk k_mrq IOper.gh
set_option maxRecDepth 100000 in
set_option maxHeartbeats 16000000 in
theorem v_LRead (h1 : T.sp n_label_Check = some sp_Check) (h2 : T.sp n_strings_Cut = some sp_Cut) (h3 : T.sp n_lines_one = some sp_lone) (h4 : T.sp n_lines_Check = some sp_LCheck) : Verified T ir_lines_Read sp_LRead := by
  refine Verified.mk ?_
  rintro ds ⟨S, ls, P, s, rfl, hck, hs⟩
  rw [lread_F]
  have x1 : sp_Check.hx = none := rfl
  have x2 : sp_Cut.hx = none := rfl
  have x3 : sp_lone.hx = none := rfl
  have x4 : sp_LCheck.hx = none := rfl
  have f1 : sp_Check.F [cfgD S ls P] = .int .i64 0 := by simp only [sp_Check, cfgOf_cfgD, hck]
  have p1 : sp_Check.pre [cfgD S ls P] = True := by
    simp only [sp_Check, eq_iff_iff, iff_true]; exact ⟨_, rfl, by simp [isCfg, cfgD, isLb_lbc]⟩
  have hcfg : isCfg (cfgD S ls P) = true := by simp [isCfg, cfgD, isLb_lbc]
  have f4 := fun a => lchk_F (S := S) (P := P) (ls := ls) a hck
  have p4 := fun (a : Ac) (ha : okAc a) => lchk_pre (S := S) (P := P) (ls := ls) (a := a) hcfg ha
  have hL : (ls.map lbc).length = ls.length := List.length_map ..
  generalize ls.length = L at f4 hL ⊢
  generalize hcf : ls.map lbc = cs at f4 p4
  simp only [cfgD, hcf] at f1 p1 ⊢
  clear hcfg hck
  simp (implicitDefEqProofs := false) (maxSteps := 10000000) [ir_lines_Read, h1, x1, f1, p1]
  refine k_loop (ι := {p : Nat × List UInt8 × List Ac // p.1 ≤ 3000 ∧ p.2.1.length ≤ 4000000 ∧ p.2.2.length = p.1 ∧ readF S L (3001 - p.1) p.1 p.2.1 p.2.2 = readL S L s}) (fun y => ⟨mkTm 59 0 [(1, .str y.1.2.1), (2, .own 2 0), (8, .row 100), (9, .int .i64 y.1.1)], [(2, .box [.int .i64 S, .fz 2 cs, .int .i64 P]), (100, .row 12 (y.1.2.2.map actC))]⟩)
    (fun y => 3000 - y.1.1) [(100, none)] ⟨(0, s, []), by simp only; omega, hs, rfl, rfl⟩ (by simp (implicitDefEqProofs := false) (maxSteps := 10000000)) ?_
  rintro ⟨⟨i, t, acc⟩, hi, ht, hacc, hrd⟩ Q hQ
  simp only at hQ hi ht hacc hrd
  generalize readL S L s = res at hrd hQ ⊢
  have en : 3001 - i = (3000 - i) + 1 := by omega
  rw [en, readF] at hrd
  have hi9 : (i : Int) ≤ 3000 := by omega
  by_cases he : t = []
  · subst he
    rw [if_pos rfl] at hrd
    subst hrd
    simp (implicitDefEqProofs := false) (maxSteps := 10000000) [ir_lines_Read_b0, ir_lines_Read_r1]
    done
  rw [if_neg he] at hrd
  have f2 := cut_F t 10
  have p2 := cut_pre 10 ht
  have hcl := cut_len t 10
  have f3 := lone_F (Lib.cut t [10]).1
  have p3 := lone_pre (s := (Lib.cut t [10]).1) (by omega)
  have hkp := oneL_keep (Lib.cut t [10]).1
  have f5 := f4 (oneL (Lib.cut t [10]).1).1
  have p5 := p4 (oneL (Lib.cut t [10]).1).1 (by unfold okAc; omega)
  generalize Lib.cut t [10] = q at *
  obtain ⟨line, rest, ended⟩ := q
  simp only at f2 p2 hcl f3 p3 hkp f5 p5 hrd
  generalize oneL line = o at *
  obtain ⟨a, ok⟩ := o
  simp only [actC] at f3 hkp f5 p5 hrd
  by_cases hi3 : i = 3000
  · rw [if_pos hi3] at hrd
    subst hrd
    have hi3' : (i : Int) = 3000 := by omega
    simp (implicitDefEqProofs := false) (maxSteps := 10000000) [ir_lines_Read_b0, he, h2, x2, f2, p2, hi3']
    done
  rw [if_neg hi3] at hrd
  have hi3' : ¬ (i : Int) = 3000 := by omega
  clear f4 p4
  cases ended
  · rw [if_pos (.inl rfl)] at hrd
    subst hrd
    simp (implicitDefEqProofs := false) (maxSteps := 10000000) [ir_lines_Read_b0, he, h2, x2, f2, p2, hi3', hi3, h3, x3, f3, p3, actC]
    done
  cases ok
  · rw [if_pos (.inr rfl)] at hrd
    subst hrd
    simp (implicitDefEqProofs := false) (maxSteps := 10000000) [ir_lines_Read_b0, he, h2, x2, f2, p2, hi3', hi3, h3, x3, f3, p3, actC]
    done
  rw [if_neg (by simp)] at hrd
  by_cases h0 : actE S L a = 0
  · rw [if_neg (by simp [h0])] at hrd
    rw [h0] at f5
    simp (implicitDefEqProofs := false) (maxSteps := 10000000) [ir_lines_Read_b0, he, h2, x2, f2, p2, hi3', hi3, h3, x3, f3, p3, h4, x4, f5, p5, actC]
    exact ⟨⟨by omega, by omega⟩, by simp only [inR]; omega, hQ _ [(100, some 56)] ⟨(i + 1, rest, acc ++ [a]), by simp only; omega, by simp only; omega, by simp [hacc], by
      have e : 3001 - (i + 1) = 3000 - i := by omega
      simp only [e]; exact hrd⟩ (by simp (implicitDefEqProofs := false) (maxSteps := 10000000) [actC]) (by simp only; omega)⟩
  · rw [if_pos h0] at hrd
    subst hrd
    simp (implicitDefEqProofs := false) (maxSteps := 10000000) [ir_lines_Read_b0, he, h2, x2, f2, p2, hi3', hi3, h3, x3, f3, p3, h4, x4, f5, p5, h0, actC]
    done
end
end Go.Proofs.YthiggepiihoooaaDoor
