/-
  Where nothing is: what a cluster writes, sends, answers, turns. Conditions: those of each specification's 'pre', and that the functions that are called are what theirs say.
-/
import Derived.Test.YtgioabhamihfmaaGreatDoorTiE
set_option linter.unusedVariables false
set_option linter.unusedSimpArgs false
namespace Go.Proofs.YtgioabhamihfmaaGreatDoor
open Go Go.Vcg

/-- A cluster, world l and the stores of site s of it open. -/
def obO (S : Int) (cs : List (List D)) (P t : Int) (L n l s : Nat) (up : List Bool) (wc : List D) (fl : List (List D)) : List (Nat × Ob) :=
  [(1000000000, clB S cs P 1000000001 1000000002 1000000003 t), (1000000001, .rwh 1 (List.replicate L [.sbx wc]) l [.elr 1000000004 6 0 0]), (1000000002, .rwh 1 (List.replicate n [.sub 4 (List.replicate L eSto)]) s [.row 1000000005]), (1000000003, upsO up),
    (1000000004, .rwh 6 [wc] 0 [.row 1000000006, .row 1000000007, .row 1000000008, .fz 1 fl, .row 1000000009, .row 1000000010]), (1000000005, .row 4 (List.replicate L eSto)), (1000000006, .row 2 (List.replicate n eTape)), (1000000007, .row 2 (List.replicate n eDesk)), (1000000008, .row 1 (List.replicate n [.fz 4 []])), (1000000009, .row 6 []), (1000000010, .row 1 [])]
def openOb (S : Int) (cs : List (List D)) (P t : Int) (L n l s : Nat) (up : List Bool) : List (Nat × Ob) := obO S cs P t L n l s up (wC n) (List.replicate (n * n) noMs)
/-- What it is handed with. -/
def pOpen (xs : List D) (ds : List D) (ob : List (Nat × Ob)) : Prop :=
  ∃ (n l s : Nat) (ls : List (Int × Int)) (P t : Int) (up : List Bool), ds = .own 1000000000 0 :: .int .i64 l :: .int .i64 s :: xs ∧ ob = openOb n (ls.map lbc) P t ls.length n l s up ∧ okC n ls P ∧ l < ls.length ∧ s < n
theorem pOpen_eq (xs : List D) {n l s : Nat} {ls : List (Int × Int)} {P : Int} (t : Int) (up : List Bool) (h : okC n ls P) (hl : l < ls.length) (hs : s < n) : pOpen xs (.own 1000000000 0 :: .int .i64 l :: .int .i64 s :: xs) (openOb n (ls.map lbc) P t ls.length n l s up) = True := by
  simp only [pOpen, eq_iff_iff, iff_true]; exact ⟨n, l, s, ls, P, t, up, rfl, rfl, h, hl, hs⟩
/-- The same, without a site. -/
def pOpn (xs : List D) (ds : List D) (ob : List (Nat × Ob)) : Prop :=
  ∃ (n l s : Nat) (ls : List (Int × Int)) (P t : Int) (up : List Bool), ds = .own 1000000000 0 :: .int .i64 l :: xs ∧ ob = openOb n (ls.map lbc) P t ls.length n l s up ∧ okC n ls P ∧ l < ls.length
theorem pOpn_eq (xs : List D) {n l : Nat} (s : Nat) {ls : List (Int × Int)} {P : Int} (t : Int) (up : List Bool) (h : okC n ls P) (hl : l < ls.length) : pOpn xs (.own 1000000000 0 :: .int .i64 l :: xs) (openOb n (ls.map lbc) P t ls.length n l s up) = True := by
  simp only [pOpn, eq_iff_iff, iff_true]; exact ⟨n, l, s, ls, P, t, up, rfl, rfl, h, hl⟩
def sp_CWrite : Sp := spI (pOpen [.fz 8 []]) (.tup [])
def sp_CSend : Sp := spI (pOpn [.fz 12 []]) (.tup [])
def sp_CAns : Sp := spI (pOpen [.agg eAns, .bool false]) (.tup [])
def turnOb : List (Nat × Ob) → List (Nat × Ob)
  | a :: b :: c :: d :: (k, .rwh z w i [x0, x1, x2, x3, _, x5]) :: e :: f :: g :: h :: (_, rp) :: r => a :: b :: c :: d :: (k, .rwh z w i [x0, x1, x2, x3, .row 0, x5]) :: e :: f :: g :: h :: (0, rp) :: r
  | l => l
def hs_CTurn : HSp := ⟨pOpen [.agg eTurn], fun _ ob => (.tup [], turnOb ob)⟩
def sp_CTurn : Sp := { pre := fun _ => True, F := fun _ => .any, hx := some hs_CTurn }
theorem turn_hx : sp_CTurn.hx = some hs_CTurn := rfl
theorem turn_pre : hs_CTurn.pre = pOpen [.agg eTurn] := rfl
theorem turn_F (ds : List D) (a b c d e f g h r : Nat × Ob) (k z i m : Nat) (w : List (List D)) (x0 x1 x2 x3 x4 x5 : D) (rp : Ob) : hs_CTurn.F ds [a, b, c, d, (k, .rwh z w i [x0, x1, x2, x3, x4, x5]), e, f, g, h, (m, rp), r] = (.tup [], [a, b, c, d, (k, .rwh z w i [x0, x1, x2, x3, .row 0, x5]), e, f, g, h, (0, rp), r]) := rfl
def sp_Has0 : Sp := spC (fun ds => ds = [.fz 8 [], .clo 152 []]) (.bool false)
def sp_Idx0 : Sp := spC (fun ds => ds = [.fz 8 [], .clo 152 []]) (.int .i64 (-1))
theorem rep_set {α : Type} (n i : Nat) (a : α) : (List.replicate n a).set i a = List.replicate n a := by simp

/-- A cluster, shut. -/
def clO (S : Int) (cs : List (List D)) (P t : Int) (L n : Nat) (up : List Bool) : List (Nat × Ob) :=
  [(1000000000, clB S cs P 1000000001 1000000002 1000000003 t), (1000000001, worldsO L n), (1000000002, storesO L n), (1000000003, upsO up)]
def pCl (q : Nat → Nat → List D → Prop) (ds : List D) (ob : List (Nat × Ob)) : Prop :=
  ∃ (n : Nat) (ls : List (Int × Int)) (P t : Int) (up : List Bool) (xs : List D), ds = .own 1000000000 0 :: xs ∧ ob = clO n (ls.map lbc) P t ls.length n up ∧ okC n ls P ∧ up.length = n ∧ (0 ≤ t ∧ t ≤ 100000) ∧ q n ls.length xs
theorem pCl_eq {q : Nat → Nat → List D → Prop} {n : Nat} {ls : List (Int × Int)} {P t : Int} {up : List Bool} {xs : List D} (hc : okC n ls P) (hu : up.length = n) (ht : 0 ≤ t ∧ t ≤ 100000) (hq : q n ls.length xs) : pCl q (.own 1000000000 0 :: xs) (clO n (ls.map lbc) P t ls.length n up) = True := by
  simp only [pCl, eq_iff_iff, iff_true]; exact ⟨n, ls, P, t, up, xs, rfl, rfl, hc, hu, ht, hq⟩
theorem elem_ups {up : List Bool} {j : Nat} (h : j < up.length) : elem (up.map fun b => [.bool b]) j = [.bool (up.getD j false)] := by
  simp [elem, List.getD, h]

section
variable {T : Tb}
attribute [local simp] isMl VCopsM mstep mchk lchk kchk IOp.isB k_seq k_block k_skip k_reg k_alt k_cond k_exit k_ret kf_nil kf_seq_n kf_seq_e kf_seq_r kf_blk_n kf_blk_e kf_blk_r kf_lp_n kf_lp_e kf_lp_r kf_cut_n kf_cut_e kf_cut_r mkTm VCops VCalt istep act gd applyE wrapD Opd.ev get_mk set_mk set_mk0 tget16 tset16 tget_0 tset_0 tget_1 tset_1 tget_2 tset_2 tget_3 tset_3 tget_4 tset_4 tget_5 tset_5 tget_6 tset_6 tget_7 tset_7 tget_8 tset_8 tget_9 tset_9 tget_10 tset_10 tget_11 tset_11 tget_12 tset_12 tget_13 tset_13 tget_14 tset_14 tget_15 tset_15 D.un D.gu gus IOp.opds binD fnPost getRes IRes.get oneRes D.out outL D.clos closL D.norow norowL D.lv lvL D.scal scalL D.cells D.cell D.cell' St.lk obPut obDel List.lookup cut pickD splice fillParts fillRows elem_cons newsOf D.pl D.forget forgetL Ob.forget forgetO eqCells sg leD leDL leOb apartK St.le D.keys keysL D.rows rowsL obKeys addKeys reach pos D.ren renL Ob.ren inM outM inObs outObs goneK apartN okNames_eq okNms obNms namesOK_nil namesOK_cons freeOK_nil freeOK_cons D.frz frzL Ob.frz frzO St.frz forgetLs dropObs putObs hcall freeOf keeps baseN shD isShift shMax k_bad VCopsG frz_nil actx actc cnum vwCut St.frzT St.opnT St.clsT D.opn opnL Ob.opn opnO VCou VCcx St.oneS D.objI D.objK St.objP St.objQ St.pathR St.pathI pathL scrL D.scr St.opnS St.clsS D.cellS D.fzs fzsL k_mrk k_mrq IOper.gh St.bxS D.tob tobL Ob.tob tobO zI zC zw zz zg zm zi zb zf zl za zs zn zo zd zy zu ze zk zt zc zp
set_option maxRecDepth 100000 in
theorem v_Idx0 : Verified T ir_slices_IndexFunc_reredos_api_Record_reredos_api_Record sp_Idx0 := by
  refine Verified.mk ?_
  rintro ds rfl
  simp only [sp_Idx0]
  rw [spC_F]
  simp (implicitDefEqProofs := false) (maxSteps := 10000000) [ir_slices_IndexFunc_reredos_api_Record_reredos_api_Record]
  refine k_loop (ι := Unit) (fun y => ⟨mkTm 19 0 [(7, .int .i64 0), (8, .int .i64 0)], []⟩) (fun y => 0) [] () (by simp (implicitDefEqProofs := false) (maxSteps := 10000000)) ?_
  rintro _ Q hQ
  clear hQ
  simp (implicitDefEqProofs := false) (maxSteps := 10000000) [ir_slices_IndexFunc_reredos_api_Record_reredos_api_Record_b0, ir_slices_IndexFunc_reredos_api_Record_reredos_api_Record_r1]
set_option maxRecDepth 100000 in
theorem v_Has0 (h1 : T.sp n_slices_IndexFunc_reredos_api_Record_reredos_api_Record = some sp_Idx0) : Verified T ir_slices_ContainsFunc_reredos_api_Record_reredos_api_Record sp_Has0 := by
  refine Verified.mk ?_
  rintro ds rfl
  simp only [sp_Has0]
  rw [spC_F]
  unfold sp_Idx0 at h1
  simp (implicitDefEqProofs := false) (maxSteps := 10000000) [ir_slices_ContainsFunc_reredos_api_Record_reredos_api_Record, h1, spC_hx, spC_F, spC_pre]
set_option maxRecDepth 100000 in
set_option maxHeartbeats 8000000 in
theorem v_CWrite (h1 : T.sp n_slices_ContainsFunc_reredos_api_Record_reredos_api_Record = some sp_Has0) : Verified T ir_cluster_cluster_write sp_CWrite := by
  refine Verified.mkx (hs := hsI (pOpen [.fz 8 []]) (.tup [])) rfl ?_
  rintro ds ob ⟨n, l, s, ls, P, t, up, rfl, rfl, hc, hl, hs⟩ R hR
  rw [hsI_F] at hR
  unfold sp_Has0 at h1
  simp only [openOb] at hR ⊢
  generalize wC n = wc at *
  generalize List.replicate (n * n) noMs = fl at *
  have hl' : (l : Int) < ls.length := by omega
  generalize ls.map lbc = cs at *
  generalize ls.length = L at *
  simp only [obO, clB, upsO] at hR
  simp (implicitDefEqProofs := false) (maxSteps := 10000000) [ir_cluster_cluster_write, hl', obO, clB, upsO]
  refine k_loop (ι := Unit) (fun y => ⟨mkTm 71 0 [(3, .fz 8 []), (21, .int .i64 0), (22, .int .i64 0)], obO n cs P t L n l s up wc fl⟩) (fun y => 0) [] () (by simp (implicitDefEqProofs := false) (maxSteps := 10000000) [obO, clB, upsO]) ?_
  rintro _ Q hQ
  clear hQ
  simp (implicitDefEqProofs := false) (maxSteps := 10000000) [ir_cluster_cluster_write_b0, ir_cluster_cluster_write_r1, h1, spC_hx, spC_F, spC_pre, obO, clB, upsO]
  exact hR _ [] (by simp (implicitDefEqProofs := false) (maxSteps := 10000000))
set_option maxRecDepth 100000 in
set_option maxHeartbeats 8000000 in
theorem v_CSend (h1 : T.sp n_net_Send = some sp_NSend0) : Verified T ir_cluster_cluster_send sp_CSend := by
  refine Verified.mkx (hs := hsI (pOpn [.fz 12 []]) (.tup [])) rfl ?_
  rintro ds ob ⟨n, l, s, ls, P, t, up, rfl, rfl, hc, hl⟩ R hR
  rw [hsI_F] at hR
  have x1 : sp_NSend0.hx = none := rfl
  have f1 := nsend_F (cfgD n ls P) (flyE (n * n)) (.fz 12 [])
  have p1 := nsend_pre hc
  simp only [Int.toNat_natCast] at p1
  unfold flyE at f1 p1
  generalize hw : wC n = wc
  generalize hf : List.replicate (n * n) noMs = fl at *
  have hl' : (l : Int) < ls.length := by omega
  simp only [openOb, hw, hf] at hR ⊢
  generalize hcs : ls.map lbc = cs at *
  generalize ls.length = L at *
  simp only [cfgD, hcs] at f1 p1
  simp only [obO, clB, upsO] at hR
  simp (implicitDefEqProofs := false) (maxSteps := 10000000) [ir_cluster_cluster_send, hl', h1, x1, f1, p1, obO, clB, upsO]
  exact hR _ [] (by simp (implicitDefEqProofs := false) (maxSteps := 10000000))
set_option maxRecDepth 100000 in
set_option maxHeartbeats 8000000 in
theorem v_CAns (h1 : T.sp n_cluster_cluster_write = some sp_CWrite) (h2 : T.sp n_cluster_cluster_send = some sp_CSend) : Verified T ir_cluster_cluster_answer sp_CAns := by
  refine Verified.mkx (hs := hsI (pOpen [.agg eAns, .bool false]) (.tup [])) rfl ?_
  rintro ds ob ⟨n, l, s, ls, P, t, up, rfl, rfl, hc, hl, hs⟩ R hR
  rw [hsI_F] at hR
  unfold sp_CWrite at h1
  unfold sp_CSend at h2
  have p1 := pOpen_eq [.fz 8 []] t up hc hl hs
  have p2 := pOpn_eq [.fz 12 []] s t up hc hl
  simp only [openOb] at hR p1 p2 ⊢
  generalize wC n = wc at *
  generalize List.replicate (n * n) noMs = fl at *
  have he := elem_rep (n := ls.length) (i := l) eSto hl
  have hl' : (l : Int) < ls.length := by omega
  have hs' : (s : Int) < n := by omega
  generalize ls.map lbc = cs at *
  generalize ls.length = L at *
  simp only [obO, clB, upsO] at hR p1 p2
  unfold eSto at *
  unfold eAns
  simp (implicitDefEqProofs := false) (maxSteps := 10000000) [ir_cluster_cluster_answer, hl', hl, hs', he, h1, h2, spI_hx, hsI_F, hsI_pre, p1, p2, obO, clB, upsO, eSto, rep_set]
  exact hR _ [] (by simp (implicitDefEqProofs := false) (maxSteps := 10000000))
set_option maxRecDepth 100000 in
set_option maxHeartbeats 8000000 in
theorem v_CTurn (h1 : T.sp n_cluster_cluster_write = some sp_CWrite) (h2 : T.sp n_cluster_cluster_send = some sp_CSend) : Verified T ir_cluster_cluster_turn sp_CTurn := by
  refine Verified.mkx (hs := hs_CTurn) rfl ?_
  rintro ds ob ⟨n, l, s, ls, P, t, up, rfl, rfl, hc, hl, hs⟩ R hR
  unfold sp_CWrite at h1
  unfold sp_CSend at h2
  have p1 := pOpen_eq [.fz 8 []] t up hc hl hs
  have p2 := pOpn_eq [.fz 12 []] s t up hc hl
  simp only [openOb] at hR p1 p2 ⊢
  generalize wC n = wc at *
  generalize List.replicate (n * n) noMs = fl at *
  have he := elem_rep (n := n) (i := s) eDesk hs
  have hl' : (l : Int) < ls.length := by omega
  have hs' : (s : Int) < n := by omega
  generalize ls.map lbc = cs at *
  generalize ls.length = L at *
  simp only [obO, clB, upsO] at hR p1 p2
  rw [turn_F] at hR
  unfold eDesk at *
  unfold eTurn
  simp (implicitDefEqProofs := false) (maxSteps := 10000000) [ir_cluster_cluster_turn, hl', obO, clB, upsO]
  refine k_loop (ι := Unit) (fun y => ⟨mkTm 114 0 [(0, .own 1000000000 0), (1, .int .i64 l), (2, .int .i64 s), (7, .own 7 0), (8, .elr 1000000004 6 0 0), (51, .nl 1), (52, .int .i64 0), (53, .int .i64 0)], (7, .box [.int .i64 1, .fz 6 [], .fz 12 [], .fz 8 [], .fz 6 [], .int .i64 0, .int .i64 0]) :: obO n cs P t L n l s up wc fl⟩) (fun y => 0) [] () (by simp (implicitDefEqProofs := false) (maxSteps := 10000000) [obO, clB, upsO, eDesk]) ?_
  rintro _ Q hQ
  clear hQ
  simp (implicitDefEqProofs := false) (maxSteps := 10000000) [ir_cluster_cluster_turn_b0, ir_cluster_cluster_turn_r1, hs', hs, he, h1, h2, spI_hx, hsI_F, hsI_pre, p1, p2, obO, clB, upsO, eDesk, rep_set]
  exact hR _ [(0, some 111)] (by simp (implicitDefEqProofs := false) (maxSteps := 10000000))
end
end Go.Proofs.YtgioabhamihfmaaGreatDoor
