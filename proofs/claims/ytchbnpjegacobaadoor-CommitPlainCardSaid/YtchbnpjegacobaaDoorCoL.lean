/-
  Turns at a coordinator: a task is asked for. Conditions: those of each specification's 'pre', and that the functions that are called are what theirs say.
-/
import Derived.Test.YtchbnpjegacobaaDoorCoK
set_option linter.unusedVariables false
set_option linter.unusedSimpArgs false
namespace Go.Proofs.YtchbnpjegacobaaDoor
open Go Go.Vcg

def tskJ (j : Jb) (t : Tk) : Jb := ⟨j.n, j.state, j.tasks ++ [⟨t.wr, t.label, t.key, t.value, t.version, j.asks + 1, t.done, t.sure⟩], j.asked, j.asks + 1, 0⟩
def tskC (h : Hd) (j : Jb) (t : Tk) : List D := msgC ⟨if t.wr = true then 2 else 1, h.me, t.key.tmod h.S, h.me, j.n, if t.wr = true then 0 else t.label, t.key, t.value, 0, j.asks + 1, false, 0⟩
def tskW (h : Hd) (w : Wd) (i : Nat) (t : Tk) : Wd := ⟨w.next, w.su, w.co, w.js.set i (tskJ (jAt w.js i) t), w.ms ++ [tskC h (jAt w.js i) t], w.rs, w.rp⟩
def fTsk (h : Hd) (w : Wd) (av : List D) : D × Wd := match av with | [.int _ i, .agg t] => (.tup [], tskW h w i.toNat (tkOf t)) | _ => (.any, w)
def preTsk (h : Hd) (w : Wd) (av : List D) : Prop := ∃ (i : Nat) (t : Tk), av = [.int .i64 i, .agg (tkC t)] ∧ i < w.js.length ∧ okTs (jAt w.js i) ∧ fewW h w ∧ 0 ≤ (jAt w.js i).asks ∧ (jAt w.js i).asks ≤ 2000000 ∧ 0 ≤ t.key ∧ t.key < 8
def sp_tsk : Sp := spW preTsk fTsk

section
variable {T : Tb}
attribute [local simp] k_seq k_block k_skip k_reg k_alt k_cond k_exit k_ret kf_nil kf_seq_n kf_seq_e kf_seq_r kf_blk_n kf_blk_e kf_blk_r kf_lp_n kf_lp_e kf_lp_r kf_cut_n kf_cut_e kf_cut_r mkTm VCops VCalt istep act gd applyE wrapD Opd.ev get_mk set_mk set_mk0 tget16 tset16 tget_0 tset_0 tget_1 tset_1 tget_2 tset_2 tget_3 tset_3 tget_4 tset_4 tget_5 tset_5 tget_6 tset_6 tget_7 tset_7 tget_8 tset_8 tget_9 tset_9 tget_10 tset_10 tget_11 tset_11 tget_12 tset_12 tget_13 tset_13 tget_14 tset_14 tget_15 tset_15 D.un D.gu gus IOp.opds binD fnPost getRes IRes.get oneRes D.out outL D.clos closL D.norow norowL D.lv lvL D.scal scalL D.cells D.cell D.cell' St.lk obPut obDel List.lookup cut pickD splice fillParts fillRows elem_cons newsOf D.pl D.forget forgetL Ob.forget forgetO eqCells sg leD leDL leOb apartK St.le D.keys keysL D.rows rowsL obKeys addKeys reach pos D.ren renL Ob.ren inM outM inObs outObs goneK apartN okNames_eq okNms obNms namesOK_nil namesOK_cons freeOK_nil freeOK_cons D.frz frzL Ob.frz frzO St.frz forgetLs dropObs putObs hcall freeOf keeps baseN shD isShift shMax k_bad VCopsG frz_nil actx actc cnum vwCut St.frzT St.opnT St.clsT D.opn opnL Ob.opn opnO VCou VCcx St.oneS D.objI D.objK scrL D.scr St.opnS St.clsS D.cellS D.fzs fzsL k_mrk k_mrq IOper.gh
set_option maxRecDepth 100000 in
set_option maxHeartbeats 8000000 in
theorem v_tsk (h1 : T.sp n_coord_work_send = some sp_send) : Verified T ir_coord_work_task sp_tsk := by
  refine Verified.mkx rfl ?_
  rintro ds ob ⟨h, ⟨next, su, co, js, ms, rs, rp⟩, av, rfl, rfl, i, t, rfl, hi, hj, ⟨hS, hl, hm1, hm2, hm3⟩, ha0, ha1, hk0, hk1⟩ R hR
  rw [hsW_F] at hR
  simp only [fTsk, tskW, Int.toNat_natCast, tkOf_tkC] at hR hi hj hS hl hm1 hm2 hm3 ha0 ha1
  have x1 : sp_send.hx = some hs_send := rfl
  have hi1 : (i : Int) < js.length := by omega
  have hel := elem_jbS hi
  have hse2 := fun x => elem_set_eq (es := js.map jbS) (i := i) (x := x) (by simpa using hi)
  have hst := fun j => (List.map_set (f := jbS) (l := js) (i := i) (a := j)).symm
  obtain ⟨j1, j2, j3⟩ := hj
  generalize jAt js i = j at hel j1 j2 j3 hR ha0 ha1
  obtain ⟨a1, a2, a3, a4, a5, a6⟩ := j
  obtain ⟨t1, t2, t3, t4, t5, t6, t7, t8⟩ := t
  simp only [tskJ, tskC] at hR
  have hset := hst ⟨a1, a2, a3 ++ [⟨t1, t2, t3, t4, t5, a5 + 1, t7, t8⟩], a4, a5 + 1, 0⟩
  have hJl : (js.set i ⟨a1, a2, a3 ++ [⟨t1, t2, t3, t4, t5, a5 + 1, t7, t8⟩], a4, a5 + 1, 0⟩).length = js.length := by simp
  have hJe : elem ((js.set i ⟨a1, a2, a3 ++ [⟨t1, t2, t3, t4, t5, a5 + 1, t7, t8⟩], a4, a5 + 1, 0⟩).map jbS) i = jbS ⟨a1, a2, a3 ++ [⟨t1, t2, t3, t4, t5, a5 + 1, t7, t8⟩], a4, a5 + 1, 0⟩ := by rw [List.map_set, hse2]
  generalize hJ : js.set i ⟨a1, a2, a3 ++ [⟨t1, t2, t3, t4, t5, a5 + 1, t7, t8⟩], a4, a5 + 1, 0⟩ = J at hR hset hJl hJe
  have hS0 : ¬ h.S = 0 := by omega
  have f1 := fun k => send_F k (t3.tmod h.S) a1 h next su co (.rws 6 (J.map jbS)) ms rs rp []
  have p1 := fun k => send_pre k (t3.tmod h.S) a1 h next su co (ms := ms) rs rp (Jst.shut (J.map jbS)) (by omega)
  have e1 := elem_snoc ms
  have e2 := set_snoc ms
  simp only [jbS, tkC, List.map_append, List.map_cons, List.map_nil] at hel hset hJe j1 j2 j3 hk0 hk1 ha0 ha1
  simp only [wRW, wIW, wI, wR, w5, wb, msgC, tkC] at f1 p1 hR ⊢
  cases t1
  · simp (implicitDefEqProofs := false) (maxSteps := 10000000) [ir_coord_work_task, hi, hi1, hel, hS0, h1, x1, f1, p1, e1, e2, hse2, List.set_set, hset, hJl, hJe]
    exact ⟨by simp only [inR]; omega, by omega, hR _ [(0, some 1000000001), (1, some 590000), (2, some 1000000003), (3, some 1000000004)] (by simp (implicitDefEqProofs := false) (maxSteps := 10000000))⟩
  · simp (implicitDefEqProofs := false) (maxSteps := 10000000) [ir_coord_work_task, hi, hi1, hel, hS0, h1, x1, f1, p1, e1, e2, hse2, List.set_set, hset, hJl, hJe]
    exact ⟨by simp only [inR]; omega, by omega, hR _ [(0, some 1000000001), (1, some 590000), (2, some 1000000003), (3, some 1000000004)] (by simp (implicitDefEqProofs := false) (maxSteps := 10000000))⟩
end
end Go.Proofs.YtchbnpjegacobaaDoor
