/-
  Where nothing is: tapes that are recovered, and what a site does of itself. Conditions: those of each specification's 'pre', and that the functions that are called are what theirs say.
-/
import Derived.Test.YtgioabhamihfmaaGreatDoorTiB
set_option linter.unusedVariables false
set_option linter.unusedSimpArgs false
namespace Go.Proofs.YtgioabhamihfmaaGreatDoor
open Go Go.Vcg

/-- A function that leaves what it is handed as it is. -/
def hsI (p : List D → List (Nat × Ob) → Prop) (r : D) : HSp := ⟨p, fun _ ob => (r, ob)⟩
def spI (p : List D → List (Nat × Ob) → Prop) (r : D) : Sp := { pre := fun _ => True, F := fun _ => .any, hx := some (hsI p r) }
theorem spI_hx (p : List D → List (Nat × Ob) → Prop) (r : D) : (spI p r).hx = some (hsI p r) := rfl
theorem hsI_F (p : List D → List (Nat × Ob) → Prop) (r : D) (a : List D) (b : List (Nat × Ob)) : (hsI p r).F a b = (r, b) := rfl
theorem hsI_pre (p : List D → List (Nat × Ob) → Prop) (r : D) : (hsI p r).pre = p := rfl
/-- A function that answers one thing. -/
def spC (p : List D → Prop) (r : D) : Sp := { pre := p, F := fun _ => r }
theorem spC_hx (p : List D → Prop) (r : D) : (spC p r).hx = none := rfl
theorem spC_F (p : List D → Prop) (r : D) (a : List D) : (spC p r).F a = r := rfl
theorem spC_pre (p : List D → Prop) (r : D) : (spC p r).pre = p := rfl

/-! ### A reader of nothing -/
def rdOb (x : D) (f : Int) : List (Nat × Ob) := [(1000000000, .box [x, .int .i64 f])]
def isRd (ob : List (Nat × Ob)) : Prop := ∃ x f, ob = rdOb x f ∧ (x = .nl 1 ∨ x = .fz 1 []) ∧ (f = 0 ∨ f = 5)
def hsR (p : List D → Prop) (r : D) : HSp := ⟨fun ds ob => p ds ∧ isRd ob, fun _ _ => (r, rdOb (.nl 1) 5)⟩
def spR (p : List D → Prop) (r : D) : Sp := { pre := fun _ => True, F := fun _ => .any, hx := some (hsR p r) }
theorem spR_hx (p : List D → Prop) (r : D) : (spR p r).hx = some (hsR p r) := rfl
theorem hsR_F (p : List D → Prop) (r : D) (a : List D) (b : List (Nat × Ob)) : (hsR p r).F a b = (r, [(1000000000, .box [.nl 1, .int .i64 5])]) := rfl
theorem hsR_pre (p : List D → Prop) (r : D) (a : List D) (x : D) (f : Int) : (hsR p r).pre a [(1000000000, .box [x, .int .i64 f])] = (p a ∧ ((x = .nl 1 ∨ x = .fz 1 []) ∧ (f = 0 ∨ f = 5))) := by
  simp only [hsR, isRd, rdOb, eq_iff_iff]
  constructor
  · rintro ⟨h, x', f', h1, h2, h3⟩
    simp only [List.cons.injEq, Prod.mk.injEq, Ob.box.injEq, D.int.injEq, and_true, true_and] at h1
    obtain ⟨rfl, rfl⟩ := h1
    exact ⟨h, h2, h3⟩
  · rintro ⟨h, h2, h3⟩
    exact ⟨h, x, f, rfl, h2, h3⟩
def pTake (ds : List D) : Prop := ∃ k : Int, ds = [.own 1000000000 0, .int .i64 k] ∧ 1 ≤ k
theorem pTake_eq (k : Int) (h : 1 ≤ k) : pTake [.own 1000000000 0, .int .i64 k] = True := by simp only [pTake, eq_iff_iff, iff_true]; exact ⟨k, rfl, h⟩
def pOwn (ds : List D) : Prop := ds = [.own 1000000000 0]
def pKind (ds : List D) : Prop := ds = [.own 1000000000 0, .int .i64 6]
def sp_Take0 : Sp := spR pTake (.int .i64 0)
def sp_RTxn0 : Sp := spR pOwn (.agg [.int .i64 0, .int .i64 0])
def sp_RKind0 : Sp := spR pKind (.int .i64 0)
def pEnd (ds : List D) (ob : List (Nat × Ob)) : Prop := ds = [.own 1000000000 0] ∧ ob = [(1000000000, .box [.nl 1, .int .i64 5])]
theorem pEnd_eq : pEnd [.own 1000000000 0] [(1000000000, .box [.nl 1, .int .i64 5])] = True := by simp [pEnd]
def sp_REnd0 : Sp := spI pEnd (.tup [])
def zRec : List D := [.int .i64 0, .int .i64 0, .int .i64 0, .int .i64 0, .int .i64 0, .int .i64 0, .bool false, .fz 1 []]
def pCfg2 (x : D) (ds : List D) : Prop := ∃ S ls P, ds = [cfgD S ls P, x] ∧ okC S ls P
theorem pCfg2_eq {S : Int} {ls : List (Int × Int)} {P : Int} (x : D) (h : okC S ls P) : pCfg2 x [cfgD S ls P, x] = True := by
  simp only [pCfg2, eq_iff_iff, iff_true]; exact ⟨S, ls, P, rfl, h⟩
def sp_Dec0 : Sp := spC (pCfg2 (.fz 1 [])) (.tup [.agg zRec, .int .i64 5])
def sp_Rcv0 : Sp := spC (pCfg2 (.agg eTape)) (.tup [.fz 8 [], .agg eTape, .int .i64 0])
/-- The table of records' parts, as far as it is looked at. -/
def recT : List (List D) := [[.bool false, .bool false, .bool false, .bool false, .bool false, .bool false, .bool false, .bool false], [.bool false, .bool true, .bool true, .bool false, .bool true, .bool false, .bool false, .bool false], [.bool false, .bool false, .bool false, .bool false, .bool false, .bool true, .bool false, .bool false], [.bool false, .bool false, .bool false, .bool false, .bool false, .bool false, .bool false, .bool true], [.bool false, .bool false, .bool false, .bool false, .bool false, .bool false, .bool false, .bool false], [.bool false, .bool false, .bool false, .bool false, .bool false, .bool false, .bool false, .bool false], [.bool false, .bool false, .bool false, .bool false, .bool false, .bool true, .bool false, .bool false]]

theorem okC_P {S : Int} {ls : List (Int × Int)} {P : Int} (h : okC S ls P) : 1 ≤ P ∧ P ≤ 1048576 := by
  have h1 := h.1
  unfold check at h1
  split at h1
  · omega
  · split at h1
    · omega
    · split at h1
      · split at h1
        · omega
        · omega
      · rename_i h2; exact absurd h1 h2

section
variable {T : Tb}
attribute [local simp] isMl VCopsM mstep mchk lchk kchk IOp.isB k_seq k_block k_skip k_reg k_alt k_cond k_exit k_ret kf_nil kf_seq_n kf_seq_e kf_seq_r kf_blk_n kf_blk_e kf_blk_r kf_lp_n kf_lp_e kf_lp_r kf_cut_n kf_cut_e kf_cut_r mkTm VCops VCalt istep act gd applyE wrapD Opd.ev get_mk set_mk set_mk0 tget16 tset16 tget_0 tset_0 tget_1 tset_1 tget_2 tset_2 tget_3 tset_3 tget_4 tset_4 tget_5 tset_5 tget_6 tset_6 tget_7 tset_7 tget_8 tset_8 tget_9 tset_9 tget_10 tset_10 tget_11 tset_11 tget_12 tset_12 tget_13 tset_13 tget_14 tset_14 tget_15 tset_15 D.un D.gu gus IOp.opds binD fnPost getRes IRes.get oneRes D.out outL D.clos closL D.norow norowL D.lv lvL D.scal scalL D.cells D.cell D.cell' St.lk obPut obDel List.lookup cut pickD splice fillParts fillRows elem_cons newsOf D.pl D.forget forgetL Ob.forget forgetO eqCells sg leD leDL leOb apartK St.le D.keys keysL D.rows rowsL obKeys addKeys reach pos D.ren renL Ob.ren inM outM inObs outObs goneK apartN okNames_eq okNms obNms namesOK_nil namesOK_cons freeOK_nil freeOK_cons D.frz frzL Ob.frz frzO St.frz forgetLs dropObs putObs hcall freeOf keeps baseN shD isShift shMax k_bad VCopsG frz_nil actx actc cnum vwCut St.frzT St.opnT St.clsT D.opn opnL Ob.opn opnO VCou VCcx St.oneS D.objI D.objK St.objP St.objQ St.pathR St.pathI pathL scrL D.scr St.opnS St.clsS D.cellS D.fzs fzsL k_mrk k_mrq IOper.gh St.bxS D.tob tobL Ob.tob tobO zI zC zw zz zg zm zi zb zf zl za zs zn zo zd zy zu ze zk zt zc zp
set_option maxRecDepth 100000 in
theorem v_Take0 : Verified T ir_wire_reader_take sp_Take0 := by
  refine Verified.mkx (hs := hsR pTake (.int .i64 0)) rfl ?_
  rintro ds ob ⟨⟨k, rfl, hk⟩, x, f, rfl, hx, hf⟩ R hR
  rw [hsR_F] at hR
  have h1 : (0 : Int) < k := by omega
  rcases hx with rfl | rfl <;> rcases hf with rfl | rfl
  all_goals simp (implicitDefEqProofs := false) (maxSteps := 10000000) [ir_wire_reader_take, rdOb, h1]
  all_goals exact hR _ [] (by simp (implicitDefEqProofs := false) (maxSteps := 10000000))
set_option maxRecDepth 100000 in
theorem v_RTxn0 (h1 : T.sp n_wire_reader_take = some sp_Take0) : Verified T ir_wire_reader_txn sp_RTxn0 := by
  refine Verified.mkx (hs := hsR pOwn (.agg [.int .i64 0, .int .i64 0])) rfl ?_
  rintro ds ob ⟨rfl, x, f, rfl, hx, hf⟩ R hR
  rw [hsR_F] at hR
  unfold sp_Take0 at h1
  have e1 := pTake_eq 1 (by omega)
  have e3 := pTake_eq 3 (by omega)
  rcases hx with rfl | rfl <;> rcases hf with rfl | rfl
  all_goals simp (implicitDefEqProofs := false) (maxSteps := 10000000) [ir_wire_reader_txn, rdOb, h1, spR_hx, hsR_F, hsR_pre, e1, e3]
  all_goals exact hR _ [] (by simp (implicitDefEqProofs := false) (maxSteps := 10000000))
set_option maxRecDepth 100000 in
theorem v_RKind0 (h1 : T.sp n_wire_reader_take = some sp_Take0) : Verified T ir_wire_reader_kind sp_RKind0 := by
  refine Verified.mkx (hs := hsR pKind (.int .i64 0)) rfl ?_
  rintro ds ob ⟨rfl, x, f, rfl, hx, hf⟩ R hR
  rw [hsR_F] at hR
  unfold sp_Take0 at h1
  have e1 := pTake_eq 1 (by omega)
  rcases hx with rfl | rfl <;> rcases hf with rfl | rfl
  all_goals simp (implicitDefEqProofs := false) (maxSteps := 10000000) [ir_wire_reader_kind, rdOb, h1, spR_hx, hsR_F, hsR_pre, e1]
  all_goals exact hR _ [] (by simp (implicitDefEqProofs := false) (maxSteps := 10000000))
set_option maxRecDepth 100000 in
theorem v_REnd0 : Verified T ir_wire_reader_end sp_REnd0 := by
  refine Verified.mkx (hs := hsI pEnd (.tup [])) rfl ?_
  rintro ds ob ⟨rfl, rfl⟩ R hR
  rw [hsI_F] at hR
  simp (implicitDefEqProofs := false) (maxSteps := 10000000) [ir_wire_reader_end]
  exact hR _ [] (by simp (implicitDefEqProofs := false) (maxSteps := 10000000))
set_option maxRecDepth 100000 in
set_option maxHeartbeats 4000000 in
theorem v_Dec0 (hgl : T.gl 1 = .ad 8 recT 0 0) (h1 : T.sp n_label_Check = some sp_Check) (h2 : T.sp n_slices_Clone_byte_byte = some (sp_Cl0 1)) (h3 : T.sp n_wire_reader_kind = some sp_RKind0) (h4 : T.sp n_wire_reader_txn = some sp_RTxn0) (h5 : T.sp n_wire_reader_end = some sp_REnd0) : Verified T ir_wire_DecodeRecord sp_Dec0 := by
  refine Verified.mk ?_
  rintro ds ⟨S, ls, P, rfl, hc⟩
  simp only [sp_Dec0]
  rw [spC_F]
  have x1 : sp_Check.hx = none := rfl
  have f1 := chk_F hc
  have p1 := chk_pre (S := S) (ls := ls) (P := P)
  have x2 : (sp_Cl0 1).hx = none := rfl
  have f2 := cl0_F 1
  have p2 := cl0_pre 1
  unfold sp_RKind0 at h3
  unfold sp_RTxn0 at h4
  unfold sp_REnd0 at h5
  have hel : elem recT 0 = [.bool false, .bool false, .bool false, .bool false, .bool false, .bool false, .bool false, .bool false] := rfl
  have hlt : recT.length = 7 := rfl
  generalize recT = rt at *
  generalize hcs : ls.map lbc = cs
  simp only [cfgD, hcs] at f1 p1 ⊢
  simp (implicitDefEqProofs := false) (maxSteps := 10000000) [ir_wire_DecodeRecord, ir_wire_DecodeRecord_r1, hgl, h1, x1, f1, p1, h2, x2, f2, p2, h3, h4, h5, spR_hx, hsR_F, hsR_pre, spI_hx, hsI_F, hsI_pre, pKind, pOwn, pEnd_eq, hel, hlt, zRec]
  done
set_option maxRecDepth 100000 in
set_option maxHeartbeats 4000000 in
theorem v_Rcv0 (h1 : T.sp n_tape_open = some sp_TOpen0) (h2 : T.sp n_wire_DecodeRecord = some sp_Dec0) : Verified T ir_tape_Recover sp_Rcv0 := by
  refine Verified.mk ?_
  rintro ds ⟨S, ls, P, rfl, hc⟩
  simp only [sp_Rcv0]
  rw [spC_F]
  have x1 : sp_TOpen0.hx = none := rfl
  have f1 := topen_F
  have p1 := topen_pre
  unfold sp_Dec0 at h2
  have p2 := pCfg2_eq (.fz 1 []) hc
  generalize hcs : ls.map lbc = cs
  simp only [cfgD, hcs] at p2 ⊢
  unfold eTape at *
  unfold zRec at *
  simp (implicitDefEqProofs := false) (maxSteps := 10000000) [ir_tape_Recover, h1, x1, f1, p1, h2, spC_hx, spC_F, spC_pre, p2]
  refine k_loop (ι := Unit) (fun y => ⟨mkTm 87 0 [(2, .own 2 0), (3, .own 3 0), (5, .own 5 0), (7, .own 7 0), (11, .nl 8), (12, .int .i64 0)], [(2, .box [.int .i64 S, .fz 2 cs, .int .i64 P]), (3, .box [.fz 1 [], .int .i64 0]), (5, .box [.nl 1, .int .i64 0]), (7, .box [.fz 1 [], .int .i64 0])]⟩) (fun y => 0) [] () (by simp (implicitDefEqProofs := false) (maxSteps := 10000000)) ?_
  rintro _ Q hQ
  clear hQ
  simp (implicitDefEqProofs := false) (maxSteps := 10000000) [ir_tape_Recover_b0, ir_tape_Recover_r1]
  done
end
end Go.Proofs.YtgioabhamihfmaaGreatDoor
