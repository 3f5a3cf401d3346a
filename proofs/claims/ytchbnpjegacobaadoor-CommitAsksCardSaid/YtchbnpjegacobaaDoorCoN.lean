/-
  Turns at a coordinator: a site knows that a transaction is committed. Conditions: those of each specification's 'pre', and that the functions that are called are what theirs say.
-/
import Derived.Test.YtchbnpjegacobaaDoorCoM
set_option linter.unusedVariables false
set_option linter.unusedSimpArgs false
namespace Go.Proofs.YtchbnpjegacobaaDoor
open Go Go.Vcg

def ackL (j : Jb) (m : Ms) : List Int := j.asked.filter fun x => !(decide (x = m.frm))
def ackWL (h : Hd) (w : Wd) (i : Nat) (j : Jb) (L : List Int) : Wd :=
  if L.isEmpty = true then ⟨w.next, w.su, w.co, delE w.js i, w.ms, w.rs ++ [recC ⟨4, h.me, j.n, 0, 0, 0, false, []⟩], w.rp⟩
  else ⟨w.next, w.su, w.co, w.js.set i ⟨j.n, j.state, j.tasks, L, j.asks, j.age⟩, w.ms, w.rs, w.rp⟩
def ackW (h : Hd) (w : Wd) (i : Nat) (m : Ms) : Wd := if (jAt w.js i).state = 3 then ackWL h w i (jAt w.js i) (ackL (jAt w.js i) m) else w
def fAck (h : Hd) (w : Wd) (av : List D) : D × Wd := match av with | [.int _ p, .agg m] => (.tup [], ackW h w p.toNat (msgL m)) | _ => (.any, w)
def preAck (h : Hd) (w : Wd) (av : List D) : Prop := ∃ (i : Nat) (m : Ms), av = [.int .i64 i, .agg (msgC m)] ∧ i < w.js.length ∧ okTs (jAt w.js i) ∧ fewW h w
def sp_acked : Sp := spW preAck fAck
theorem delE_set {α : Type} (l : List α) (i : Nat) (x : α) : delE (l.set i x) i = delE l i := by
  simp only [delE]
  rw [List.take_set_of_le (Nat.le_refl _), List.drop_set_of_lt (by omega)]

section
variable {T : Tb}
attribute [local simp] k_seq k_block k_skip k_reg k_alt k_cond k_exit k_ret kf_nil kf_seq_n kf_seq_e kf_seq_r kf_blk_n kf_blk_e kf_blk_r kf_lp_n kf_lp_e kf_lp_r kf_cut_n kf_cut_e kf_cut_r mkTm VCops VCalt istep act gd applyE wrapD Opd.ev get_mk set_mk set_mk0 tget16 tset16 tget_0 tset_0 tget_1 tset_1 tget_2 tset_2 tget_3 tset_3 tget_4 tset_4 tget_5 tset_5 tget_6 tset_6 tget_7 tset_7 tget_8 tset_8 tget_9 tset_9 tget_10 tset_10 tget_11 tset_11 tget_12 tset_12 tget_13 tset_13 tget_14 tset_14 tget_15 tset_15 D.un D.gu gus IOp.opds binD fnPost getRes IRes.get oneRes D.out outL D.clos closL D.norow norowL D.lv lvL D.scal scalL D.cells D.cell D.cell' St.lk obPut obDel List.lookup cut pickD splice fillParts fillRows elem_cons newsOf D.pl D.forget forgetL Ob.forget forgetO eqCells sg leD leDL leOb apartK St.le D.keys keysL D.rows rowsL obKeys addKeys reach pos D.ren renL Ob.ren inM outM inObs outObs goneK apartN okNames_eq okNms obNms namesOK_nil namesOK_cons freeOK_nil freeOK_cons D.frz frzL Ob.frz frzO St.frz forgetLs dropObs putObs hcall freeOf keeps baseN shD isShift shMax k_bad VCopsG frz_nil actx actc cnum vwCut St.frzT St.opnT St.clsT D.opn opnL Ob.opn opnO VCou VCcx St.oneS D.objI D.objK scrL D.scr St.opnS St.clsS D.cellS D.fzs fzsL k_mrk k_mrq IOper.gh
set_option maxRecDepth 100000 in
set_option maxHeartbeats 8000000 in
theorem v_acked (h1 : T.sp n_slices_DeleteFunc_int_int = some sp_DelI) (h2 : T.sp n_coord_work_record = some sp_record) (h3 : T.sp n_coord_work_drop = some sp_drop) : Verified T ir_coord_work_acked sp_acked := by
  refine Verified.mkx rfl ?_
  rintro ds ob ⟨h, ⟨next, su, co, js, ms, rs, rp⟩, av, rfl, rfl, i, m, rfl, hi, hj, ⟨hS, hl, hm1, hm2, hm3⟩⟩ R hR
  rw [hsW_F] at hR
  have hml : msgL (msgC m) = m := rfl
  simp only [fAck, ackW, hml, Int.toNat_natCast] at hR hi hj hS hl hm1 hm2 hm3
  have x1 : sp_DelI.hx = some hs_DelI := rfl
  have x2 : sp_record.hx = some hs_record := rfl
  have x3 : sp_drop.hx = some hs_drop := rfl
  have hi1 : (i : Int) < js.length := by omega
  have hel := elem_jbS hi
  have hse := fun e => set_jbS (e := e) hi
  rw [← jAt_eq hi] at hse
  have hst := fun j => (List.map_set (f := jbS) (l := js) (i := i) (a := j)).symm
  obtain ⟨j1, j2, j3⟩ := hj
  generalize jAt js i = j at hel j1 j2 j3 hR hse
  obtain ⟨a1, a2, a3, a4, a5, a6⟩ := j
  have f1 := DelI_F a4 (.acked m)
  have p1 := DelI_pre (l := a4) (.acked m) (by simp only at j2; omega)
  simp only [n_coord_work_acked_1] at f1 p1
  simp only [ackL] at hR
  generalize hL : (a4.filter fun x => !(decide (x = m.frm))) = L at f1 hR
  have hset := hst ⟨a1, a2, a3, L, a5, a6⟩
  have hall := all_jbS (js.set i ⟨a1, a2, a3, L, a5, a6⟩)
  have hdl := delE_map (js.set i ⟨a1, a2, a3, L, a5, a6⟩) i
  rw [delE_set] at hdl
  have hJl : (js.set i ⟨a1, a2, a3, L, a5, a6⟩).length = js.length := by simp
  have hJe : elem ((js.set i ⟨a1, a2, a3, L, a5, a6⟩).map jbS) i = jbS ⟨a1, a2, a3, L, a5, a6⟩ := by rw [List.map_set, elem_set_eq (by simpa using hi)]
  simp only [ackWL] at hR
  generalize js.set i ⟨a1, a2, a3, L, a5, a6⟩ = J at hset hall hdl hJl hJe hR
  obtain ⟨m1, m2, m3, m4, m5, m6, m7, m8, m9, m10, m11, m12⟩ := m
  simp only [jbS, msgC] at hel hse hset hJe f1 p1 hR
  have hse' := hse _ rfl
  by_cases hc : a2 = 3
  · subst hc
    simp only [if_true] at hR
    by_cases h0 : L = []
    · subst h0
      simp only [List.isEmpty_nil, if_true] at hR
      simp only [List.map_nil] at hset hJe f1
      have f2 := record_F 4 a1 h next su co (.rws 6 (J.map jbS)) ms rs rp []
      have p2 := record_pre 4 a1 h next su co (J.map jbS) ms rp (rs := rs) (by omega)
      have f3 := drop_F i h next su co (J.map jbS) ms (rs ++ [recC ⟨4, h.me, a1, 0, 0, 0, false, []⟩]) rp
      have p3 := drop_pre (at' := i) h next su co (es := J.map jbS) ms (rs ++ [recC ⟨4, h.me, a1, 0, 0, 0, false, []⟩]) rp (by simp; omega) (by simp; omega) hall
      rw [hdl] at f3
      simp only [wRW, wIW, wI, wR, w5, wb, msgC] at f2 p2 f3 p3 hR ⊢
      simp (implicitDefEqProofs := false) (maxSteps := 10000000) [ir_coord_work_acked, hi, hi1, hel, h1, x1, f1, p1, hset, hJl, hJe, h2, x2, f2, p2, h3, x3, f3, p3]
      exact hR _ [(0, some 440000), (1, some 1000000002), (2, some 410000), (3, some 1000000004)] (by simp (implicitDefEqProofs := false) (maxSteps := 10000000))
    · have h0e : L.isEmpty = false := by cases L with | nil => exact absurd rfl h0 | cons _ _ => rfl
      have h00 : ¬ (L.length : Int) = 0 := by
        intro h; exact h0 (List.eq_nil_of_length_eq_zero (by omega))
      simp only [h0e, Bool.false_eq_true, if_false] at hR
      simp only [wRW, wIW, wI, wR, w5, wb, msgC] at hR ⊢
      simp (implicitDefEqProofs := false) (maxSteps := 10000000) [ir_coord_work_acked, hi, hi1, hel, h1, x1, f1, p1, hset, h00, h0]
      exact hR _ [(0, some 1000000001), (1, some 1000000002), (2, some 1000000003), (3, some 1000000004)] (by simp (implicitDefEqProofs := false) (maxSteps := 10000000))
  · simp only [if_neg hc] at hR
    simp only [wRW, wIW, wI, wR, w5, wb, msgC] at hR ⊢
    simp (implicitDefEqProofs := false) (maxSteps := 10000000) [ir_coord_work_acked, hi, hi1, hel, hc]
    exact hR _ [(0, some 1000000001), (1, some 1000000002), (2, some 1000000003), (3, some 1000000004)] (by simp (implicitDefEqProofs := false) (maxSteps := 10000000))
end
end Go.Proofs.YtchbnpjegacobaaDoor
