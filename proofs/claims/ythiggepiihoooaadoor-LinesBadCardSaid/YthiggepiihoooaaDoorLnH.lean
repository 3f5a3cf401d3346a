/-
  Acts are read as they were shown: the law's function says so. Conditions: those of its specification's 'pre', and that the functions that are called are what theirs say.
-/
import Derived.Test.YthiggepiihoooaaDoorLnG
import Derived.Test.YthiggepiihoooaaDoorLnM
set_option linter.unusedVariables false
set_option linter.unusedSimpArgs false
namespace Go.Proofs.YthiggepiihoooaaDoor
open Go Go.Vcg

theorem readL_back {S : Int} {L : Nat} {lx : List Ac} (hok : ∀ a ∈ lx, actE S L a = 0) (hl : lx.length ≤ 3000) (hS : S ≤ 1000) (hL : L ≤ 1000) : readL S L (linesOf lx) = (lx, 0, 0) := by
  have h := readL_lines hok hl hS hL []
  rw [List.append_nil] at h
  have e : 3001 - lx.length = (3000 - lx.length) + 1 := by omega
  rw [h, e, readF, if_pos rfl]
theorem line_len' {S : Int} {L : Nat} {a : Ac} (h : actE S L a = 0) (hS : S ≤ 1000) (hL : L ≤ 6) : (lineOf a).length ≤ 300 := by
  have hn := nums_ok h hS (L := L) (by omega)
  have h1 := wordK_len a.kind
  have h2 := numsS_len hn.v
  have h4 := tail_len hn
  have hk := h
  have h3 : (valsOf a).length ≤ 7 := by
    unfold actE at hk
    split at hk
    · cases hk
    split at hk
    · cases hk
    rename_i q2
    have q2 := (Classical.not_not.1 q2).2.2.2.2.2.2.2.2.1
    unfold valsOf
    repeat' split
    all_goals simp only [List.length_cons, List.length_nil]
    all_goals omega
  unfold lineOf
  simp only [List.length_append, List.length_cons, List.length_nil]
  omega
theorem lines_len' {S : Int} {L : Nat} (hS : S ≤ 1000) (hL : L ≤ 6) : ∀ {l : List Ac}, (∀ a ∈ l, actE S L a = 0) → (linesOf l).length ≤ 300 * l.length
  | [], _ => by simp [linesOf]
  | a :: l, h => by
    have h1 := line_len' (h a (by simp)) hS hL
    have h2 := lines_len' hS hL (l := l) fun x hx => h x (by simp [hx])
    simp only [linesOf, List.flatMap_cons, List.length_append, List.length_cons] at h2 ⊢
    omega
def crA : Ac := ⟨6, 0, 0, 0, 0, [20], c0, []⟩
def crC : List D := [.int .i64 6, .int .i64 0, .int .i64 0, .int .i64 0, .int .i64 0, .fz 1 [[.int .i64 20]], .int .i64 0, .int .i64 0, .int .i64 0, .int .i64 0, .int .i64 0, .str []]
theorem crC_eq : [crA].map actC = [crC] := rfl
theorem lines_cr : linesOf [crA] = [99, 114, 97, 115, 104, 32, 48, 32, 50, 48, 10] := by
  have h0 : Lib.itoa 0 = [48] := by have h := itoa_nat 0; rw [dd_lt (by omega)] at h; exact h
  have h2 : Lib.itoa 20 = [50, 48] := by have h := itoa_nat 20; rw [dd_ge (by omega), dd_lt (by omega)] at h; exact h
  have e : linesOf [crA] = wordK 6 ++ ((32 :: Lib.itoa 0) ++ ((32 :: Lib.itoa 20) ++ []) ++ ([] ++ [10])) ++ [] := rfl
  rw [e, h0, h2]
  rfl
theorem cr_ok {S : Int} {L : Nat} (hS : 1 ≤ S) (hL : 1 ≤ L) : actE S L crA = 0 := by
  refine actE_ok ⟨by decide, by decide⟩ ⟨by decide, ?_, by decide, ?_, by decide, ?_, by decide, by decide, ?_, by decide, by decide⟩ ?_ (fun h => absurd h (by decide))
  · show (0 : Int) < S; omega
  · show (0 : Int) < S; omega
  · show (0 : Int) < L; omega
  · show 1 ≤ L; omega
  · simp [bareB, crA, zeroC, c0]
theorem good_acts' {S : Int} {L : Nat} {l : List Ac} (hL : L ≤ 6) (h : ∀ a ∈ l, actE S L a = 0) : okActs S L l := fun a ha => ⟨h a ha, actE_keep (h a ha) hL⟩
def sp_LinesBack : Sp := { pre := fun ds => ∃ (s : Int) (ns : List Int) (p : Int) (rs : List Rw), ds = [.int .i64 s, intsD ns, .int .i64 p, rawsD rs] ∧ inR .i64 s ∧ okInts ns ∧ inR .i64 p ∧ okRaws rs, F := fun _ => .bool true }
section
variable {T : Tb}
attribute [local simp] k_seq k_block k_skip k_reg k_alt k_cond k_exit k_ret kf_nil kf_seq_n kf_seq_e kf_seq_r kf_blk_n kf_blk_e kf_blk_r kf_lp_n kf_lp_e kf_lp_r kf_cut_n kf_cut_e kf_cut_r mkTm VCops VCalt istep act gd applyE wrapD Opd.ev get_mk set_mk set_mk0 tget16 tset16 tget_0 tset_0 tget_1 tset_1 tget_2 tset_2 tget_3 tset_3 tget_4 tset_4 tget_5 tset_5 tget_6 tset_6 tget_7 tset_7 tget_8 tset_8 tget_9 tset_9 tget_10 tset_10 tget_11 tset_11 tget_12 tset_12 tget_13 tset_13 tget_14 tset_14 tget_15 tset_15 D.un D.gu gus IOp.opds binD fnPost getRes IRes.get oneRes D.out outL D.clos closL D.norow norowL D.lv lvL D.scal scalL D.cells D.cell D.cell' St.lk obPut obDel List.lookup cut pickD splice fillParts fillRows elem_cons newsOf D.pl D.forget forgetL Ob.forget forgetO eqCells sg leD leDL leOb apartK St.le D.keys keysL D.rows rowsL obKeys addKeys reach pos D.ren renL Ob.ren inM outM inObs outObs goneK apartN okNames_eq okNms obNms namesOK_nil namesOK_cons freeOK_nil freeOK_cons D.frz frzL Ob.frz frzO St.frz forgetLs dropObs putObs hcall freeOf keeps baseN shD isShift shMax k_bad VCopsG frz_nil actx actc cnum vwCut St.frzT St.opnT St.clsT D.opn opnL Ob.opn opnO VCou VCcx St.oneS D.objI D.objK scrL D.scr St.opnS St.clsS D.cellS D.fzs fzsL k_mrk k_mrq IOper.gh
set_option maxRecDepth 100000 in
set_option maxHeartbeats 8000000 in
theorem v_LinesBack (h1 : T.sp n_reredoskeep_Config = some sp_Config) (h2 : T.sp n_reredoskeep_Acts = some sp_Acts) (h3 : T.sp n_lines_Show = some sp_Show) (h4 : T.sp n_lines_Read = some sp_LRead) (h5 : T.sp n_reredoskeep_sameActs = some sp_sameActs) : Verified T ir_reredoskeep_LinesBack sp_LinesBack := by
  refine Verified.mk ?_
  rintro ds ⟨s, ns, p, rs, rfl, hs, hns, hp, hrs⟩
  have hF : sp_LinesBack.F [.int .i64 s, intsD ns, .int .i64 p, rawsD rs] = .bool true := rfl
  rw [hF]
  have x1 : sp_Config.hx = none := rfl
  have x2 : sp_Acts.hx = some hs_Acts := rfl
  have x3 : sp_Show.hx = none := rfl
  have x4 : sp_LRead.hx = none := rfl
  have x5 := hx_sameActs
  have b1 := pk_bounds s 3 (by decide)
  have b2 := pk_bounds p 4 (by decide)
  have f1 : sp_Config.F [.int .i64 s, intsD ns, .int .i64 p] = cfgD (1 + pk s 3) (cfgLs ns) (1 + pk p 4) := by simp only [sp_Config, intsOf_intsD]
  have p1 : sp_Config.pre [.int .i64 s, intsD ns, .int .i64 p] = True := by simp only [sp_Config, eq_iff_iff, iff_true]; exact ⟨s, ns, p, rfl, hs, hns, hp⟩
  have hck := check_config (pk s 3) (pk p 4) ns b1 b2
  have hlg := cfgLs_good ns
  obtain ⟨_, _, hg1, hg2⟩ := hlg
  have hS : 1 ≤ 1 + pk s 3 ∧ 1 + pk s 3 ≤ 4 := by omega
  generalize 1 + pk s 3 = S at f1 hck hS
  generalize 1 + pk p 4 = P at f1 hck
  generalize cfgLs ns = ls at f1 hck hg1 hg2
  have f2 := Acts_F S ls P rs 30 .i64 (.bool true)
  have p2 := Acts_pre (S := S) (ls := ls) (p := P) (rs := rs) (most := 30) ⟨by omega, by omega, by omega, by omega⟩ hrs ⟨by omega, by omega⟩
  have hgood := actsL_good S ls.length 30 (by omega) (by omega) rs [] (by simp)
  have hlen := length_actsL S ls.length 30 (by decide) rs [] (by simp)
  generalize actsL S ls.length 30 rs [] = lx at f2 hgood hlen
  have f3 := show_F S ls P lx
  have p3 := show_pre (P := P) (l := lx) hck (by omega) (good_acts' (by omega) hgood) (by omega) (by omega)
  have f4 := lread_F S ls P (linesOf lx)
  rw [readL_back hgood (by omega) (by omega) (by omega)] at f4
  have hll := lines_len' (S := S) (L := ls.length) (by omega) (by omega) hgood
  have p4 := lread_pre (S := S) (ls := ls) (P := P) (s := linesOf lx) hck (by omega)
  have hcr : ∀ a ∈ [crA], actE S ls.length a = 0 := by intro a ha; rw [List.mem_singleton.1 ha]; exact cr_ok (by omega) (by omega)
  have f5 := show_F S ls P [crA]
  have p5 := show_pre (P := P) (l := [crA]) hck (by decide) (good_acts' (by omega) hcr) (by omega) (by omega)
  rw [lines_cr] at f5
  rw [crC_eq] at f5 p5
  have f6 := F_sameActs lx lx
  have p6 := pre_sameActs lx lx (fun a ha => actE_keep (hgood a ha) (by omega)) (fun a ha => actE_keep (hgood a ha) (by omega)) (by omega) (by omega)
  rw [decide_eq_true rfl] at f6
  generalize linesOf lx = t at f3 f4 p4
  clear hgood hcr hll
  generalize lx.map actC = es at *
  generalize hcs : ls.map lbc = cs
  simp only [cfgD, hcs, intsD, rawsD, crC] at f1 p1 f2 p2 f3 p3 f4 p4 f5 p5 f6 p6 ⊢
  simp (implicitDefEqProofs := false) (maxSteps := 10000000) [ir_reredoskeep_LinesBack, h1, x1, f1, p1, h2, x2, f2, p2, h3, x3, f3, p3, h4, x4, f4, p4, f5, p5, h5, x5, f6, p6]
  simp only [inR]; omega
end
end Go.Proofs.YthiggepiihoooaaDoor
