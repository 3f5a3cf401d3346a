/-
  Lines stand one behind the other: the law's function says so. Conditions: those of its specification's 'pre', and that the functions that are called are what theirs say.
-/
import Derived.Test.YthiggepiihoooaaDoorLnB
set_option linter.unusedVariables false
set_option linter.unusedSimpArgs false
namespace Go.Proofs.YthiggepiihoooaaDoor
open Go Go.Vcg

def sp_LinesJoin : Sp := { pre := fun ds => ∃ (l m : List Rw), ds = [rawsD l, rawsD m] ∧ okRaws l ∧ okRaws m, F := fun _ => .bool true }
def tickA : Ac := ⟨5, 0, 0, 0, 0, [], c0, []⟩
def tickC : List D := [.int .i64 5, .int .i64 0, .int .i64 0, .int .i64 0, .int .i64 0, .fz 1 [], .int .i64 0, .int .i64 0, .int .i64 0, .int .i64 0, .int .i64 0, .str []]
theorem tickC_eq : actC tickA = tickC := rfl
theorem linesOf_tick (l : List Ac) : 0 < (linesOf (l ++ [tickA])).length := by
  rw [linesOf_app, List.length_append]
  have : 0 < (linesOf [tickA]).length := by decide
  omega
theorem good_acts {S : Int} {L : Nat} {l : List Ac} (hL : L ≤ 6) (h : ∀ a ∈ l, actE S L a = 0) : okActs S L l := fun a ha => ⟨h a ha, actE_keep (h a ha) hL⟩
section
variable {T : Tb}
attribute [local simp] k_seq k_block k_skip k_reg k_alt k_cond k_exit k_ret kf_nil kf_seq_n kf_seq_e kf_seq_r kf_blk_n kf_blk_e kf_blk_r kf_lp_n kf_lp_e kf_lp_r kf_cut_n kf_cut_e kf_cut_r mkTm VCops VCalt istep act gd applyE wrapD Opd.ev get_mk set_mk set_mk0 tget16 tset16 tget_0 tset_0 tget_1 tset_1 tget_2 tset_2 tget_3 tset_3 tget_4 tset_4 tget_5 tset_5 tget_6 tset_6 tget_7 tset_7 tget_8 tset_8 tget_9 tset_9 tget_10 tset_10 tget_11 tset_11 tget_12 tset_12 tget_13 tset_13 tget_14 tset_14 tget_15 tset_15 D.un D.gu gus IOp.opds binD fnPost getRes IRes.get oneRes D.out outL D.clos closL D.norow norowL D.lv lvL D.scal scalL D.cells D.cell D.cell' St.lk obPut obDel List.lookup cut pickD splice fillParts fillRows elem_cons newsOf D.pl D.forget forgetL Ob.forget forgetO eqCells sg leD leDL leOb apartK St.le D.keys keysL D.rows rowsL obKeys addKeys reach pos D.ren renL Ob.ren inM outM inObs outObs goneK apartN okNames_eq okNms obNms namesOK_nil namesOK_cons freeOK_nil freeOK_cons D.frz frzL Ob.frz frzO St.frz forgetLs dropObs putObs hcall freeOf keeps baseN shD isShift shMax k_bad VCopsG frz_nil actx actc cnum vwCut St.frzT St.opnT St.clsT D.opn opnL Ob.opn opnO VCou VCcx St.oneS D.objI D.objK scrL D.scr St.opnS St.clsS D.cellS D.fzs fzsL k_mrk k_mrq IOper.gh
set_option maxRecDepth 100000 in
set_option maxHeartbeats 8000000 in
theorem v_LinesJoin (h1 : T.sp n_reredoskeep_two = some sp_two) (h2 : T.sp n_reredoskeep_Acts = some sp_Acts) (h3 : T.sp n_lines_Show = some sp_Show) : Verified T ir_reredoskeep_LinesJoin sp_LinesJoin := by
  refine Verified.mk ?_
  rintro ds ⟨l, m, rfl, hl, hm⟩
  have hF : sp_LinesJoin.F [rawsD l, rawsD m] = .bool true := rfl
  rw [hF]
  have x1 : sp_two.hx = none := rfl
  have x2 : sp_Acts.hx = some hs_Acts := rfl
  have x3 : sp_Show.hx = none := rfl
  have f1 : sp_two.F [.int .i64 2] = .agg [.int .i64 3, .fz 2 ([(0, 0), (1, 0)].map lbc), .int .i64 3] := rfl
  have p1 : sp_two.pre [.int .i64 2] = True := by simp only [sp_two, eq_iff_iff, iff_true]; exact ⟨2, rfl, by simp only [inR]; omega⟩
  have hck : check 3 [(0, 0), (1, 0)] 3 = 0 := by decide
  have f2 := fun rs => Acts_F 3 [(0, 0), (1, 0)] 3 rs 12 .i64 (.bool true)
  have p2 := fun rs (h : okRaws rs) => Acts_pre (S := 3) (ls := [(0, 0), (1, 0)]) (p := 3) (rs := rs) (most := 12) ⟨by omega, by omega, by decide, by decide⟩ h ⟨by omega, by omega⟩
  have p2l := p2 l hl
  have p2m := p2 m hm
  have f2l := f2 l
  have f2m := f2 m
  have hgl := actsL_good 3 2 12 (by decide) (by decide) l [] (by simp)
  have hgm := actsL_good 3 2 12 (by decide) (by decide) m [] (by simp)
  have hnl := length_actsL 3 2 12 (by decide) l [] (by simp)
  have hnm := length_actsL 3 2 12 (by decide) m [] (by simp)
  have hl2 : ([(0, 0), (1, 0)] : List (Int × Int)).length = 2 := rfl
  rw [hl2] at f2l f2m
  generalize actsL 3 2 12 l [] = a at f2l hgl hnl
  generalize actsL 3 2 12 m [] = b at f2m hgm hnm
  clear f2 p2
  have htick : actE 3 2 tickA = 0 := by decide
  have hgt : ∀ x ∈ b ++ [tickA], actE 3 2 x = 0 := by
    intro x hx
    rcases List.mem_append.1 hx with h | h
    · exact hgm x h
    · rw [List.mem_singleton.1 h]; exact htick
  have hga : ∀ x ∈ a ++ (b ++ [tickA]), actE 3 2 x = 0 := by
    intro x hx
    rcases List.mem_append.1 hx with h | h
    · exact hgl x h
    · exact hgt x h
  have f3 := show_F 3 [(0, 0), (1, 0)] 3 a
  have f4 := show_F 3 [(0, 0), (1, 0)] 3 (b ++ [tickA])
  have f5 := show_F 3 [(0, 0), (1, 0)] 3 (a ++ (b ++ [tickA]))
  have p3 := show_pre (P := 3) (l := a) hck (by omega) (good_acts (by decide) hgl) (by decide) (by decide)
  have p4 := show_pre (P := 3) (l := b ++ [tickA]) hck (by simp only [List.length_append, List.length_singleton]; omega) (good_acts (by decide) hgt) (by decide) (by decide)
  have p5 := show_pre (P := 3) (l := a ++ (b ++ [tickA])) hck (by simp only [List.length_append, List.length_singleton]; omega) (good_acts (by decide) hga) (by decide) (by decide)
  have hlj := linesOf_app a (b ++ [tickA])
  have hpos := linesOf_tick b
  have b1 := lines_len (L := 2) (l := a) fun x hx => nums_ok (S := 3) (L := 2) (hgl x hx) (by decide) (by decide)
  have b2 := lines_len (L := 2) (l := b ++ [tickA]) fun x hx => nums_ok (S := 3) (L := 2) (hgt x hx) (by decide) (by decide)
  rw [List.length_append, List.length_singleton] at b2
  clear hgl hgm hgt hga htick
  generalize linesOf (a ++ (b ++ [tickA])) = u at hlj f5
  generalize linesOf (b ++ [tickA]) = t at hlj f4 hpos b2
  generalize linesOf a = s at hlj f3 b1
  have hla : (a.map actC).length = a.length := List.length_map ..
  have hlb : (b.map actC).length = b.length := List.length_map ..
  simp only [List.map_append, List.map_cons, List.map_nil, tickC_eq] at f4 f5 p4 p5
  generalize a.map actC = ea at *
  generalize b.map actC = eb at *
  have hpos' : (0 : Int) < t.length := by omega
  simp only [cfgD, rawsD, tickC, List.map_cons, List.map_nil, lbc] at f1 p1 f2l f2m p2l p2m f3 f4 f5 p3 p4 p5 ⊢
  simp (implicitDefEqProofs := false) (maxSteps := 10000000) [ir_reredoskeep_LinesJoin, h1, x1, f1, p1, h2, x2, f2l, f2m, p2l, p2m, h3, x3, f3, f4, f5, p3, p4, p5, hlj, hpos, hpos']
  exact ⟨⟨by omega, by omega⟩, ⟨by omega, by omega⟩, ⟨by omega, by omega⟩, by omega⟩
end
end Go.Proofs.YthiggepiihoooaaDoor
