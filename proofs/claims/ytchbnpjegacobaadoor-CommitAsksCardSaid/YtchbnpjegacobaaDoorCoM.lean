/-
  Turns at a coordinator: why a call may not be; a site that asks what is to become of a transaction; a site that knows. Conditions: those of each specification's 'pre', and that the functions that are called are what theirs say.
-/
import Derived.Test.YtchbnpjegacobaaDoorCoL
set_option linter.unusedVariables false
set_option linter.unusedSimpArgs false
namespace Go.Proofs.YtchbnpjegacobaaDoor
open Go Go.Vcg

/-- Where a job with this number stands, as an index. -/
def askdW (h : Hd) (w : Wd) (p : Int) (m : Ms) : Wd :=
  if p < 0 then ⟨w.next, w.su, w.co, w.js, w.ms ++ [endC h.me m.n m.frm], w.rs, w.rp⟩
  else if (jAt w.js p.toNat).state = 3 ∧ m.frm ∈ (jAt w.js p.toNat).asked then ⟨w.next, w.su, w.co, w.js, w.ms ++ [tellC h.me (jAt w.js p.toNat).n m.frm], w.rs, w.rp⟩
  else w
def fAskd (h : Hd) (w : Wd) (av : List D) : D × Wd := match av with | [.int _ p, .agg m] => (.tup [], askdW h w p (msgL m)) | _ => (.any, w)
def preAskd (h : Hd) (w : Wd) (av : List D) : Prop := ∃ (p : Int) (m : Ms), av = [.int .i64 p, .agg (msgC m)] ∧ p < w.js.length ∧ (0 ≤ p → okTs (jAt w.js p.toNat)) ∧ fewW h w
def sp_asked : Sp := spW preAskd fAskd

section
variable {T : Tb}
attribute [local simp] k_seq k_block k_skip k_reg k_alt k_cond k_exit k_ret kf_nil kf_seq_n kf_seq_e kf_seq_r kf_blk_n kf_blk_e kf_blk_r kf_lp_n kf_lp_e kf_lp_r kf_cut_n kf_cut_e kf_cut_r mkTm VCops VCalt istep act gd applyE wrapD Opd.ev get_mk set_mk set_mk0 tget16 tset16 tget_0 tset_0 tget_1 tset_1 tget_2 tset_2 tget_3 tset_3 tget_4 tset_4 tget_5 tset_5 tget_6 tset_6 tget_7 tset_7 tget_8 tset_8 tget_9 tset_9 tget_10 tset_10 tget_11 tset_11 tget_12 tset_12 tget_13 tset_13 tget_14 tset_14 tget_15 tset_15 D.un D.gu gus IOp.opds binD fnPost getRes IRes.get oneRes D.out outL D.clos closL D.norow norowL D.lv lvL D.scal scalL D.cells D.cell D.cell' St.lk obPut obDel List.lookup cut pickD splice fillParts fillRows elem_cons newsOf D.pl D.forget forgetL Ob.forget forgetO eqCells sg leD leDL leOb apartK St.le D.keys keysL D.rows rowsL obKeys addKeys reach pos D.ren renL Ob.ren inM outM inObs outObs goneK apartN okNames_eq okNms obNms namesOK_nil namesOK_cons freeOK_nil freeOK_cons D.frz frzL Ob.frz frzO St.frz forgetLs dropObs putObs hcall freeOf keeps baseN shD isShift shMax k_bad VCopsG frz_nil actx actc cnum vwCut St.frzT St.opnT St.clsT D.opn opnL Ob.opn opnO VCou VCcx St.oneS D.objI D.objK scrL D.scr St.opnS St.clsS D.cellS D.fzs fzsL k_mrk k_mrq IOper.gh
set_option maxRecDepth 100000 in
set_option maxHeartbeats 8000000 in
theorem v_asked (h1 : T.sp n_coord_work_send = some sp_send) (h2 : T.sp n_slices_Contains_int_int = some sp_HasI) : Verified T ir_coord_work_asked sp_asked := by
  refine Verified.mkx rfl ?_
  rintro ds ob ⟨h, ⟨next, su, co, js, ms, rs, rp⟩, av, rfl, rfl, p, m, rfl, hi, hj, ⟨hS, hl, hm1, hm2, hm3⟩⟩ R hR
  rw [hsW_F] at hR
  have hml : msgL (msgC m) = m := rfl
  simp only [fAskd, askdW, hml] at hR hi hj hS hl hm1 hm2 hm3
  have x1 : sp_send.hx = some hs_send := rfl
  have x2 : sp_HasI.hx = none := rfl
  obtain ⟨m1, m2, m3, m4, m5, m6, m7, m8, m9, m10, m11, m12⟩ := m
  by_cases hp : p < 0
  · simp only [if_pos hp] at hR
    have f1 := send_F 4 m2 m5 h next su co (.rws 6 (js.map jbS)) ms rs rp []
    have p1 := send_pre 4 m2 m5 h next su co (ms := ms) rs rp (Jst.shut (js.map jbS)) (by omega)
    simp only [wRW, wIW, wI, wR, w5, wb, msgC, endC] at f1 p1 hR ⊢
    simp (implicitDefEqProofs := false) (maxSteps := 10000000) [ir_coord_work_asked, hp, h1, x1, f1, p1]
    exact hR _ [(0, some 1000000001), (1, some 160000), (2, some 1000000003), (3, some 1000000004)] (by simp (implicitDefEqProofs := false) (maxSteps := 10000000))
  · obtain ⟨i, rfl⟩ : ∃ i : Nat, p = i := ⟨p.toNat, by omega⟩
    have hi' : i < js.length := by omega
    have hi1 : (i : Int) < js.length := by omega
    have hel := elem_jbS hi'
    have hse := fun e => set_jbS (e := e) hi'
    rw [← jAt_eq hi'] at hse
    simp only [Int.toNat_natCast] at hR hj
    obtain ⟨j1, j2, j3⟩ := hj (by omega)
    simp only [if_neg hp] at hR
    generalize jAt js i = j at hel j1 j2 j3 hR hse
    obtain ⟨a1, a2, a3, a4, a5, a6⟩ := j
    simp only [jbS] at hel hse j1 j2 j3 hR
    have hse' := hse _ rfl
    have f2 := hasI_F a4 m2
    have p2 := hasI_pre (l := a4) m2 (by omega)
    have f1 := send_F 4 m2 a1 h next su co (.rws 6 (js.map jbS)) ms rs rp []
    have p1 := send_pre 4 m2 a1 h next su co (ms := ms) rs rp (Jst.shut (js.map jbS)) (by omega)
    have e1 := elem_snoc ms
    have e2 := set_snoc ms
    by_cases hst : a2 = 3
    · subst hst
      by_cases hm : m2 ∈ a4
      · rw [if_pos ⟨rfl, hm⟩] at hR
        rw [decide_eq_true hm] at f2
        simp only [wRW, wIW, wI, wR, w5, wb, msgC, tellC] at f1 p1 hR ⊢
        simp (implicitDefEqProofs := false) (maxSteps := 10000000) [ir_coord_work_asked, hp, hi', hi1, hel, h1, x1, f1, p1, h2, x2, f2, p2, e1, e2, hse']
        exact hR _ [(0, some 1000000001), (1, some 410000), (2, some 1000000003), (3, some 1000000004)] (by simp (implicitDefEqProofs := false) (maxSteps := 10000000))
      · rw [if_neg (fun h => hm h.2)] at hR
        rw [decide_eq_false hm] at f2
        simp only [wRW, wIW, wI, wR, w5, wb, msgC] at hR ⊢
        simp (implicitDefEqProofs := false) (maxSteps := 10000000) [ir_coord_work_asked, hp, hi', hi1, hel, h2, x2, f2, p2, hse']
        exact hR _ [(0, some 1000000001), (1, some 1000000002), (2, some 1000000003), (3, some 1000000004)] (by simp (implicitDefEqProofs := false) (maxSteps := 10000000))
    · rw [if_neg (fun h => hst h.1)] at hR
      simp only [wRW, wIW, wI, wR, w5, wb, msgC] at hR ⊢
      simp (implicitDefEqProofs := false) (maxSteps := 10000000) [ir_coord_work_asked, hp, hi', hi1, hel, hst, h2, x2, f2, p2, hse']
      exact hR _ [(0, some 1000000001), (1, some 1000000002), (2, some 1000000003), (3, some 1000000004)] (by simp (implicitDefEqProofs := false) (maxSteps := 10000000))
end
end Go.Proofs.YtchbnpjegacobaaDoor
