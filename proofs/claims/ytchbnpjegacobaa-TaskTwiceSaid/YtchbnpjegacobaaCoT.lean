/-
  A message to a coordinator: what it does. Conditions: those of each specification's 'pre', and that the functions that are called are what theirs say.
-/
import Derived.Test.YtchbnpjegacobaaCoS
set_option linter.unusedVariables false
set_option linter.unusedSimpArgs false
namespace Go.Proofs.Ytchbnpjegacobaa
open Go Go.Vcg

noncomputable def hearE (h : Hd) (next : Int) (js : List Jb) (m : Ms) : Int :=
  if begE h next js ≠ 0 then begE h next js else if chkM h.S h.ls h.P m ≠ 0 then chkM h.S h.ls h.P m else if m.to ≠ h.me ∨ m.site ≠ h.me then 2 else if m.kind < 5 then 3 else 0
noncomputable def hearP (h : Hd) (w : Wd) (i : Nat) (m : Ms) : Wd :=
  if m.kind = 5 then ansW h w i (jAt w.js i) m false else if m.kind = 6 then ansW h w i (jAt w.js i) m true else if m.kind = 7 then sureW h w i (jAt w.js i) m else ackW h w i m
noncomputable def hearW (h : Hd) (w : Wd) (m : Ms) (p : Int) : Wd :=
  if m.kind = 9 then askdW h w p m else if p < 0 then w else hearP h w p.toNat m
/-- A message: what the turn says, and the code. -/
noncomputable def hearT (h : Hd) (next : Int) (js : List Jb) (m : Ms) : Wd × Int :=
  if hearE h next js m = 0 then (hearW h (wdN next js) m (placeJ js m.n), 0) else (wd0, hearE h next js m)
noncomputable def sp_Hear : Sp := {
  pre := fun ds => ∃ (h : Hd) (next : Int) (js : List Jb) (m : Ms), ds = [cfgD h.S h.ls h.P, .int .i64 h.l, .int .i64 h.me, .agg (dkC next js), .agg (msgC m)] ∧ js.length ≤ 1000 ∧ ∀ j ∈ js, fewJ j
  F := fun
    | [c, .int _ l, .int _ me, .agg [.int _ next, js], .agg m] => .tup [.agg (trnC (hearT ⟨(cfgOf c).1, (cfgOf c).2.1, (cfgOf c).2.2, l, me⟩ next (lsOf jbOf js) (msgL m)).1), .int .i64 (hearT ⟨(cfgOf c).1, (cfgOf c).2.1, (cfgOf c).2.2, l, me⟩ next (lsOf jbOf js) (msgL m)).2]
    | _ => .any }
theorem hear_F (h : Hd) (next : Int) (js : List Jb) (m : Ms) : sp_Hear.F [cfgD h.S h.ls h.P, .int .i64 h.l, .int .i64 h.me, .agg (dkC next js), .agg (msgC m)] = .tup [.agg (trnC (hearT h next js m).1), .int .i64 (hearT h next js m).2] := by
  have e : msgL (msgC m) = m := rfl
  simp only [sp_Hear, dkC, cfgOf_cfgD, jbs_of, e]
theorem hear_pre (h : Hd) (next : Int) {js : List Jb} (m : Ms) (hl : js.length ≤ 1000) (hf : ∀ j ∈ js, fewJ j) : sp_Hear.pre [cfgD h.S h.ls h.P, .int .i64 h.l, .int .i64 h.me, .agg (dkC next js), .agg (msgC m)] = True := by
  simp only [sp_Hear, eq_iff_iff, iff_true]; exact ⟨h, next, js, m, rfl, hl, hf⟩
theorem cmC_F (S : Int) (ls : List (Int × Int)) (P : Int) (m : Ms) : sp_CheckMessage.F [cfgD S ls P, .agg (msgC m)] = .int .i64 (chkM S ls P m) := by
  have e2 : msgOf (.agg (msgC m)) = m := rfl
  simp only [sp_CheckMessage, cfgOf_cfgD, e2]
theorem cmC_pre (S : Int) (ls : List (Int × Int)) (P : Int) (m : Ms) : sp_CheckMessage.pre [cfgD S ls P, .agg (msgC m)] = True := by
  simp only [sp_CheckMessage, eq_iff_iff, iff_true]; exact ⟨_, _, rfl, isCfg_mk S ls P, rfl⟩

section
variable {T : Tb}
attribute [local simp] k_seq k_block k_skip k_reg k_alt k_cond k_exit k_ret kf_nil kf_seq_n kf_seq_e kf_seq_r kf_blk_n kf_blk_e kf_blk_r kf_lp_n kf_lp_e kf_lp_r kf_cut_n kf_cut_e kf_cut_r mkTm VCops VCalt istep act gd applyE wrapD Opd.ev get_mk set_mk set_mk0 tget16 tset16 tget_0 tset_0 tget_1 tset_1 tget_2 tset_2 tget_3 tset_3 tget_4 tset_4 tget_5 tset_5 tget_6 tset_6 tget_7 tset_7 tget_8 tset_8 tget_9 tset_9 tget_10 tset_10 tget_11 tset_11 tget_12 tset_12 tget_13 tset_13 tget_14 tset_14 tget_15 tset_15 D.un D.gu gus IOp.opds binD fnPost getRes IRes.get oneRes D.out outL D.clos closL D.norow norowL D.lv lvL D.scal scalL D.cells D.cell D.cell' St.lk obPut obDel List.lookup cut pickD splice fillParts fillRows elem_cons newsOf D.pl D.forget forgetL Ob.forget forgetO eqCells sg leD leDL leOb apartK St.le D.keys keysL D.rows rowsL obKeys addKeys reach pos D.ren renL Ob.ren inM outM inObs outObs goneK apartN okNames_eq okNms obNms namesOK_nil namesOK_cons freeOK_nil freeOK_cons D.frz frzL Ob.frz frzO St.frz forgetLs dropObs putObs hcall freeOf keeps baseN shD isShift shMax k_bad VCopsG frz_nil actx actc cnum vwCut St.frzT St.opnT St.clsT D.opn opnL Ob.opn opnO VCou VCcx St.oneS D.objI D.objK scrL D.scr St.opnS St.clsS D.cellS D.fzs fzsL k_mrk k_mrq IOper.gh
end
end Go.Proofs.Ytchbnpjegacobaa
