/-
  Turns at a coordinator: a commit is wanted, a transaction is begun. Conditions: those of each specification's 'pre', and that the functions that are called are what theirs say.
-/
import Derived.Test.YtchbnpjegacobaaDoorCoJ
set_option linter.unusedVariables false
set_option linter.unusedSimpArgs false
namespace Go.Proofs.YtchbnpjegacobaaDoor
open Go Go.Vcg

/-- What changes in a turn. -/
structure Wd where
  (next su co : Int) (js : List Jb) (ms rs rp : List (List D))
def wIW (h : Hd) (w : Wd) : List (Nat × Ob) := wI h w.next w.su w.co w.js w.ms w.rs w.rp
def wRW (h : Hd) (w : Wd) : List (Nat × Ob) := wR h w.next w.su w.co w.js w.ms w.rs w.rp
/-- A function of a turn's work. -/
def hsW (pre : Hd → Wd → List D → Prop) (f : Hd → Wd → List D → D × Wd) : HSp := {
  pre := fun ds ob => ∃ (h : Hd) (w : Wd) (av : List D), ds = .own 1000000000 0 :: av ∧ ob = wIW h w ∧ pre h w av
  F := fun ds ob => match ds, ob with
    | _ :: av, [(_, b), (_, .rws _ es), (_, .row _ ms), (_, .row _ rs), (_, .row _ rp)] =>
      ((f (hdOf b).1 ⟨(hdOf b).2.1, (hdOf b).2.2.1, (hdOf b).2.2.2, es.map jbSOf, ms, rs, rp⟩ av).1, wRW (hdOf b).1 (f (hdOf b).1 ⟨(hdOf b).2.1, (hdOf b).2.2.1, (hdOf b).2.2.2, es.map jbSOf, ms, rs, rp⟩ av).2)
    | _, _ => (.any, []) }
def spW (pre : Hd → Wd → List D → Prop) (f : Hd → Wd → List D → D × Wd) : Sp := { pre := fun _ => True, F := fun _ => .any, hx := some (hsW pre f) }
theorem hsW_F (pre : Hd → Wd → List D → Prop) (f : Hd → Wd → List D → D × Wd) (h : Hd) (w : Wd) (av : List D) : (hsW pre f).F (.own 1000000000 0 :: av) (wIW h w) = ((f h w av).1, wRW h (f h w av).2) := by
  obtain ⟨a, b, c, d, e, g, k⟩ := w
  simp only [hsW, wIW, wI, w5, jbsS_of, hdOf_wb]
theorem hsW_pre {pre : Hd → Wd → List D → Prop} (f : Hd → Wd → List D → D × Wd) {h : Hd} {w : Wd} {av : List D} (hp : pre h w av) : (hsW pre f).pre (.own 1000000000 0 :: av) (wIW h w) = True := by
  simp only [hsW, eq_iff_iff, iff_true]; exact ⟨h, w, av, rfl, rfl, hp⟩
/-- There is not too much of anything. -/
def fewW (h : Hd) (w : Wd) : Prop := 1 ≤ h.S ∧ w.js.length ≤ 1000 ∧ w.ms.length ≤ 5000 ∧ w.rs.length ≤ 5000 ∧ w.rp.length ≤ 5000
noncomputable def comW (h : Hd) (w : Wd) (i : Nat) : Wd := ⟨w.next, w.su, (jAt w.js i).n, cmJ h w.js i, w.ms ++ cmM h (jAt w.js i), w.rs ++ cmR h (jAt w.js i), w.rp ++ [rpC ⟨h.me, 4, (jAt w.js i).n, 0, 0, 0⟩]⟩
noncomputable def endW (h : Hd) (w : Wd) (i : Nat) : Wd := ⟨w.next, w.su, w.co, delE w.js i, w.ms ++ (cmS h (jAt w.js i)).map (endC h.me (jAt w.js i).n), w.rs, w.rp⟩
noncomputable def cgW (h : Hd) (w : Wd) (i : Nat) : Wd :=
  if ((jAt w.js i).tasks.any agnB) = true then ⟨w.next, (jAt w.js i).n, w.co, w.js.set i ⟨(jAt w.js i).n, 2, (jAt w.js i).tasks, (jAt w.js i).asked, (jAt w.js i).asks, 0⟩, w.ms ++ agnM h (jAt w.js i), w.rs, w.rp⟩
  else comW h ⟨w.next, (jAt w.js i).n, w.co, w.js, w.ms, w.rs, w.rp⟩ i
def preAt (h : Hd) (w : Wd) (av : List D) : Prop := ∃ i : Nat, av = [.int .i64 i] ∧ i < w.js.length ∧ okTs (jAt w.js i) ∧ fewW h w
noncomputable def fCg (h : Hd) (w : Wd) (av : List D) : D × Wd := match av with | [.int _ i] => (.tup [], cgW h w i.toNat) | _ => (.any, w)
noncomputable def sp_committing : Sp := spW preAt fCg
theorem agn_none {j : Jb} (h : (j.tasks.any agnB) = false) (hd : Hd) : agnM hd j = [] := by
  have : j.tasks.filter agnB = [] := by
    rw [List.filter_eq_nil_iff]
    intro t ht hb
    rw [List.any_eq_false] at h
    exact h t ht hb
  simp [agnM, this]

def begW (h : Hd) (w : Wd) (room : Int) : Wd :=
  if w.js.length = 6 ∨ 1048576 < w.next ∨ room < 600 then ⟨w.next, w.su, w.co, w.js, w.ms, w.rs, w.rp ++ [rpC ⟨h.me, 1, 0, 0, 0, 8⟩]⟩
  else ⟨w.next + 1, w.su, w.co, w.js ++ [⟨w.next, 1, [], [], 0, 0⟩], w.ms, w.rs ++ [recC ⟨5, h.me, w.next, 0, 0, 0, false, []⟩], w.rp ++ [rpC ⟨h.me, 1, w.next, 0, 0, 0⟩]⟩
def fBeg (h : Hd) (w : Wd) (av : List D) : D × Wd := match av with | [.int _ i] => (.tup [], begW h w i) | _ => (.any, w)
def preBeg (h : Hd) (w : Wd) (av : List D) : Prop := ∃ i : Int, av = [.int .i64 i] ∧ fewW h w ∧ 0 ≤ w.next ∧ w.next ≤ 2000000
def sp_begun : Sp := spW preBeg fBeg

theorem elem_set_eq {es : List (List D)} {i : Nat} {x : List D} (h : i < es.length) : elem (es.set i x) i = x := by
  simp [elem, List.getD, List.getElem?_set, h]
section
variable {T : Tb}
attribute [local simp] k_seq k_block k_skip k_reg k_alt k_cond k_exit k_ret kf_nil kf_seq_n kf_seq_e kf_seq_r kf_blk_n kf_blk_e kf_blk_r kf_lp_n kf_lp_e kf_lp_r kf_cut_n kf_cut_e kf_cut_r mkTm VCops VCalt istep act gd applyE wrapD Opd.ev get_mk set_mk set_mk0 tget16 tset16 tget_0 tset_0 tget_1 tset_1 tget_2 tset_2 tget_3 tset_3 tget_4 tset_4 tget_5 tset_5 tget_6 tset_6 tget_7 tset_7 tget_8 tset_8 tget_9 tset_9 tget_10 tset_10 tget_11 tset_11 tget_12 tset_12 tget_13 tset_13 tget_14 tset_14 tget_15 tset_15 D.un D.gu gus IOp.opds binD fnPost getRes IRes.get oneRes D.out outL D.clos closL D.norow norowL D.lv lvL D.scal scalL D.cells D.cell D.cell' St.lk obPut obDel List.lookup cut pickD splice fillParts fillRows elem_cons newsOf D.pl D.forget forgetL Ob.forget forgetO eqCells sg leD leDL leOb apartK St.le D.keys keysL D.rows rowsL obKeys addKeys reach pos D.ren renL Ob.ren inM outM inObs outObs goneK apartN okNames_eq okNms obNms namesOK_nil namesOK_cons freeOK_nil freeOK_cons D.frz frzL Ob.frz frzO St.frz forgetLs dropObs putObs hcall freeOf keeps baseN shD isShift shMax k_bad VCopsG frz_nil actx actc cnum vwCut St.frzT St.opnT St.clsT D.opn opnL Ob.opn opnO VCou VCcx St.oneS D.objI D.objK scrL D.scr St.opnS St.clsS D.cellS D.fzs fzsL k_mrk k_mrq IOper.gh
set_option maxRecDepth 100000 in
set_option maxHeartbeats 8000000 in
theorem v_committing (h1 : T.sp n_coord_work_again = some sp_again) (h2 : T.sp n_coord_work_commit = some sp_commit) : Verified T ir_coord_work_committing sp_committing := by
  refine Verified.mkx rfl ?_
  rintro ds ob ⟨h, ⟨next, su, co, js, ms, rs, rp⟩, av, rfl, rfl, i, rfl, hi, hj, hS, hl, hm1, hm2, hm3⟩ R hR
  rw [hsW_F] at hR
  simp only [fCg, cgW, comW, Int.toNat_natCast] at hR hi hj hS hl hm1 hm2 hm3
  have x1 : sp_again.hx = some hs_again := rfl
  have x2 : sp_commit.hx = some hs_commit := rfl
  have hi1 : (i : Int) < js.length := by omega
  have hel := elem_jbS hi
  have f1 := again_F i h next (jAt js i).n co js ms rs rp
  have p1 := again_pre h next (jAt js i).n co (ms := ms) rs rp hi hj hS (by omega)
  cases hb : (jAt js i).tasks.any agnB
  · have f2 := commit_F i h next (jAt js i).n co js ms rs rp
    have p2 := commit_pre h next (jAt js i).n co (ms := ms) (rs := rs) (rp := rp) hi hl hj hS (by omega) (by omega) (by omega)
    simp only [hb, agn_none hb, List.append_nil, Bool.false_eq_true, if_false] at f1 hR
    simp only [wRW, wIW, wI, wR, wRm, w5, wb, jbS] at f1 p1 f2 p2 hR hel ⊢
    simp (implicitDefEqProofs := false) (maxSteps := 10000000) [ir_coord_work_committing, hi, hi1, hel, h1, x1, f1, p1, h2, x2, f2, p2]
    exact hR _ [(0, some 330000), (1, some 330001), (2, some 330002), (3, some 330003)] (by simp (implicitDefEqProofs := false) (maxSteps := 10000000))
  · have hset : ∀ e, e = jbS ⟨(jAt js i).n, 2, (jAt js i).tasks, (jAt js i).asked, (jAt js i).asks, 0⟩ → (js.map jbS).set i e = (js.set i ⟨(jAt js i).n, 2, (jAt js i).tasks, (jAt js i).asked, (jAt js i).asks, 0⟩).map jbS := by
      rintro e rfl; rw [List.map_set]
    have hset' := hset _ rfl
    have hse2 := fun x => elem_set_eq (es := js.map jbS) (i := i) (x := x) (by simpa using hi)
    simp only [hb, if_true] at f1 hR
    simp only [wRW, wIW, wI, wR, wRm, w5, wb, jbS] at f1 p1 hR hel hset' ⊢
    simp (implicitDefEqProofs := false) (maxSteps := 10000000) [ir_coord_work_committing, hi, hi1, hel, h1, x1, f1, p1, hse2, List.set_set, hset']
    exact hR _ [(0, some 1000000001), (1, some 240000), (2, some 1000000003), (3, some 1000000004)] (by simp (implicitDefEqProofs := false) (maxSteps := 10000000))
set_option maxRecDepth 100000 in
set_option maxHeartbeats 8000000 in
theorem v_begun (h1 : T.sp n_coord_work_reply = some sp_reply) (h2 : T.sp n_coord_work_record = some sp_record) : Verified T ir_coord_work_begun sp_begun := by
  refine Verified.mkx rfl ?_
  rintro ds ob ⟨h, ⟨next, su, co, js, ms, rs, rp⟩, av, rfl, rfl, room, rfl, ⟨hS, hl, hm1, hm2, hm3⟩, hn0, hn1⟩ R hR
  rw [hsW_F] at hR
  simp only [fBeg, begW] at hR hS hl hm1 hm2 hm3 hn0 hn1
  have x1 : sp_reply.hx = some hs_reply := rfl
  have x2 : sp_record.hx = some hs_record := rfl
  by_cases hc : js.length = 6 ∨ 1048576 < next ∨ room < 600
  · simp only [if_pos hc] at hR
    have f1 := reply_F 1 0 0 0 8 h next su co (.rws 6 (js.map jbS)) ms rs rp []
    have p1 := reply_pre 1 0 0 0 8 h next su co ms rs (rp := rp) (Jst.shut (js.map jbS)) (by omega)
    simp only [wRW, wIW, wI, wR, w5, wb] at f1 p1 hR ⊢
    by_cases c1 : (js.length : Int) = 6
    · simp (implicitDefEqProofs := false) (maxSteps := 10000000) [ir_coord_work_begun, c1, h1, x1, f1, p1]
      exact hR _ [(0, some 1000000001), (1, some 1000000002), (2, some 1000000003), (3, some 290000)] (by simp (implicitDefEqProofs := false) (maxSteps := 10000000))
    · by_cases c2 : 1048576 < next
      · simp (implicitDefEqProofs := false) (maxSteps := 10000000) [ir_coord_work_begun, c1, c2, h1, x1, f1, p1]
        exact hR _ [(0, some 1000000001), (1, some 1000000002), (2, some 1000000003), (3, some 290000)] (by simp (implicitDefEqProofs := false) (maxSteps := 10000000))
      · have c3 : room < 600 := by omega
        simp (implicitDefEqProofs := false) (maxSteps := 10000000) [ir_coord_work_begun, c1, c2, c3, h1, x1, f1, p1]
        exact hR _ [(0, some 1000000001), (1, some 1000000002), (2, some 1000000003), (3, some 290000)] (by simp (implicitDefEqProofs := false) (maxSteps := 10000000))
  · simp only [if_neg hc] at hR
    have c1 : ¬ (js.length : Int) = 6 := by omega
    have c2 : ¬ 1048576 < next := by omega
    have c3 : ¬ room < 600 := by omega
    have hjs : js.map jbS ++ [[.int .i64 next, .int .i64 1, .sub 8 [], .sub 1 [], .int .i64 0, .int .i64 0]] = (js ++ [(⟨next, 1, [], [], 0, 0⟩ : Jb)]).map jbS := by rw [List.map_append]; rfl
    have f2 := record_F 5 next h (next + 1) su co (.rws 6 ((js ++ [(⟨next, 1, [], [], 0, 0⟩ : Jb)]).map jbS)) ms rs rp []
    have p2 := record_pre 5 next h (next + 1) su co ((js ++ [(⟨next, 1, [], [], 0, 0⟩ : Jb)]).map jbS) ms rp (rs := rs) (by omega)
    have f1 := reply_F 1 next 0 0 0 h (next + 1) su co (.rws 6 ((js ++ [(⟨next, 1, [], [], 0, 0⟩ : Jb)]).map jbS)) ms (rs ++ [recC ⟨5, h.me, next, 0, 0, 0, false, []⟩]) rp []
    have p1 := reply_pre 1 next 0 0 0 h (next + 1) su co ms (rs ++ [recC ⟨5, h.me, next, 0, 0, 0, false, []⟩]) (rp := rp) (Jst.shut ((js ++ [(⟨next, 1, [], [], 0, 0⟩ : Jb)]).map jbS)) (by omega)
    simp only [wRW, wIW, wI, wR, w5, wb] at f1 p1 f2 p2 hR ⊢
    generalize hJ : (js ++ [(⟨next, 1, [], [], 0, 0⟩ : Jb)]).map jbS = J at f1 p1 f2 p2 hR hjs
    simp (implicitDefEqProofs := false) (maxSteps := 10000000) [ir_coord_work_begun, c1, c2, c3, h1, x1, f1, p1, h2, x2, f2, p2, hjs]
    simp only [List.map_append, List.map_cons, List.map_nil] at hJ
    exact ⟨by simp only [inR]; omega, by omega, hR _ [(0, some 48), (1, some 1000000002), (2, some 540000), (3, some 570000)] (by simp (implicitDefEqProofs := false) (maxSteps := 10000000) [hJ])⟩
end
end Go.Proofs.YtchbnpjegacobaaDoor
