/-
  Messages on their way: what net.Empty, net.Check, net.own answer. Conditions: those of each specification's 'pre', and that the functions that are called are what theirs say.
-/
import Derived.Test.YtopdccbcknlepaaDoorMsgC
set_option linter.unusedVariables false
set_option linter.unusedSimpArgs false
namespace Go.Proofs.YtopdccbcknlepaaDoor
open Go Go.Vcg

def flyF (q : List Ms) : List D := [.fz 12 (q.map msgC)]
def flyS (q : List Ms) : List D := [.sub 12 (q.map msgC)]
theorem outE_fly : ∀ fs : List (List Ms), outE (fs.map flyS) = fs.map flyF
  | [] => rfl
  | q :: fs => by simp only [List.map_cons, outE, outE_fly fs]; rfl
/-- So many rows, each with few messages of its own way. -/
def okQ (S : Int) (ls : List (Int × Int)) (P : Int) (i : Nat) (q : List Ms) : Prop := q.length ≤ 30 ∧ ∀ m ∈ q, chkM S ls P m = 0 ∧ m.frm = (i : Int).tdiv S ∧ m.to = (i : Int).tmod S
structure okFly (S : Int) (ls : List (Int × Int)) (P : Int) (fs : List (List Ms)) : Prop where
  chk : check S ls P = 0
  sites : 1 ≤ S ∧ S ≤ 4
  len : (fs.length : Int) = S * S
  q : ∀ (i : Nat) (h : i < fs.length), okQ S ls P i fs[i]
theorem okFly.le {S P : Int} {ls : List (Int × Int)} {fs : List (List Ms)} (h : okFly S ls P fs) : fs.length ≤ 16 := by
  have h1 := h.len
  have h2 := h.sites
  have h3 : S * S ≤ 4 * 4 := Int.mul_le_mul h2.2 h2.2 (by omega) (by omega)
  omega

def hs_Cln (sz : Nat) : HSp := {
  pre := fun ds ob => ∃ es, ds = [.fz sz es] ∧ ob = [] ∧ es.length ≤ 100000
  F := fun ds _ => match ds with
    | [.fz _ es] => (.row 0, [(0, .row sz es)])
    | _ => (.any, []) }
def sp_Cln (sz : Nat) : Sp := { pre := fun _ => True, F := fun _ => .any, hx := some (hs_Cln sz) }
theorem Cln_pre {sz : Nat} {es : List (List D)} (h : es.length ≤ 100000) : (hs_Cln sz).pre [.fz sz es] [] = True := by
  simp only [hs_Cln, eq_iff_iff, iff_true]; exact ⟨es, rfl, trivial, h⟩
theorem Cln_F (sz : Nat) (es : List (List D)) : (hs_Cln sz).F [.fz sz es] [] = (.row 0, [(0, .row sz es)]) := rfl

def sp_NCheck : Sp := { pre := fun ds => ∃ S ls P fs, ds = [cfgD S ls P, .fz 1 (fs.map flyF)] ∧ okFly S ls P fs, F := fun _ => .int .i64 0 }
theorem NCheck_pre {S P : Int} {ls : List (Int × Int)} {fs : List (List Ms)} (h : okFly S ls P fs) : sp_NCheck.pre [cfgD S ls P, .fz 1 (fs.map flyF)] = True := by
  simp only [sp_NCheck, eq_iff_iff, iff_true]; exact ⟨S, ls, P, fs, rfl, h⟩
theorem NCheck_F (ds : List D) : sp_NCheck.F ds = .int .i64 0 := rfl
theorem check_F (S P : Int) (ls : List (Int × Int)) : sp_Check.F [cfgD S ls P] = .int .i64 (check S ls P) := by simp only [sp_Check, cfgOf_cfgD]
theorem check_pre (S P : Int) (ls : List (Int × Int)) : sp_Check.pre [cfgD S ls P] = True := by
  simp only [sp_Check, eq_iff_iff, iff_true]; exact ⟨_, rfl, by simp [isCfg, cfgD, isLb_lbc]⟩
theorem chkM_F (S P : Int) (ls : List (Int × Int)) (m : Ms) : sp_CheckMessage.F [cfgD S ls P, msgD m] = .int .i64 (chkM S ls P m) := by simp only [sp_CheckMessage, cfgOf_cfgD, msgOf_msgD]
theorem chkM_pre (S P : Int) (ls : List (Int × Int)) (m : Ms) : sp_CheckMessage.pre [cfgD S ls P, msgD m] = True := by
  simp only [sp_CheckMessage, eq_iff_iff, iff_true]; exact ⟨_, _, rfl, by simp [isCfg, cfgD, isLb_lbc], rfl⟩
/-- Nothing is on its way. -/
def sp_NEmpty : Sp := { pre := fun ds => ∃ S ls P, ds = [cfgD S ls P] ∧ check S ls P = 0 ∧ 1 ≤ S ∧ S ≤ 4, F := fun | [x] => .tup [.fz 1 (List.replicate ((cfgOf x).1 * (cfgOf x).1).toNat (flyF [])), .int .i64 0] | _ => .any }
def hs_NOwn : HSp := {
  pre := fun ds ob => ∃ fs : List (List Ms), ds = [.fz 1 (fs.map flyF)] ∧ ob = [] ∧ fs.length ≤ 100 ∧ ∀ q ∈ fs, q.length ≤ 100
  F := fun ds _ => match ds with
    | [.fz _ es] => (.row 0, [(0, .rws 1 (es.map fun e => match e with | [.fz sz q] => [.sub sz q] | e => e))])
    | _ => (.any, []) }
def sp_NOwn : Sp := { pre := fun _ => True, F := fun _ => .any, hx := some hs_NOwn }
theorem NOwn_pre {fs : List (List Ms)} (h : fs.length ≤ 100) (h1 : ∀ q ∈ fs, q.length ≤ 100) : hs_NOwn.pre [.fz 1 (fs.map flyF)] [] = True := by
  simp only [hs_NOwn, eq_iff_iff, iff_true]; exact ⟨fs, rfl, trivial, h, h1⟩
theorem NOwn_F (fs : List (List Ms)) : hs_NOwn.F [.fz 1 (fs.map flyF)] [] = (.row 0, [(0, .rws 1 (fs.map flyS))]) := by
  simp only [hs_NOwn, List.map_map]
  rfl

section
variable {T : Tb}
attribute [local simp] k_seq k_block k_skip k_reg k_alt k_cond k_exit k_ret kf_nil kf_seq_n kf_seq_e kf_seq_r kf_blk_n kf_blk_e kf_blk_r kf_lp_n kf_lp_e kf_lp_r kf_cut_n kf_cut_e kf_cut_r mkTm VCops VCalt istep act gd applyE wrapD Opd.ev get_mk set_mk set_mk0 tget16 tset16 tget_0 tset_0 tget_1 tset_1 tget_2 tset_2 tget_3 tset_3 tget_4 tset_4 tget_5 tset_5 tget_6 tset_6 tget_7 tset_7 tget_8 tset_8 tget_9 tset_9 tget_10 tset_10 tget_11 tset_11 tget_12 tset_12 tget_13 tset_13 tget_14 tset_14 tget_15 tset_15 D.un D.gu gus IOp.opds binD fnPost getRes IRes.get oneRes D.out outL D.clos closL D.norow norowL D.lv lvL D.scal scalL D.cells D.cell D.cell' St.lk obPut obDel List.lookup cut pickD splice fillParts fillRows elem_cons newsOf D.pl D.forget forgetL Ob.forget forgetO eqCells sg leD leDL leOb apartK St.le D.keys keysL D.rows rowsL obKeys addKeys reach pos D.ren renL Ob.ren inM outM inObs outObs goneK apartN okNames_eq okNms obNms namesOK_nil namesOK_cons freeOK_nil freeOK_cons D.frz frzL Ob.frz frzO St.frz forgetLs dropObs putObs hcall freeOf keeps baseN shD isShift shMax k_bad VCopsG frz_nil actx actc cnum vwCut St.frzT St.opnT St.clsT D.opn opnL Ob.opn opnO VCou VCcx St.oneS D.objI D.objK scrL D.scr St.opnS St.clsS D.cellS D.fzs fzsL k_mrk IOper.gh
theorem v_ClnM : Verified T ir_slices_Clone_reredos_api_Message_reredos_api_Message (sp_Cln 12) := by
  refine Verified.mkx rfl ?_
  rintro ds ob ⟨es, rfl, rfl, h⟩ R hR
  rw [Cln_F] at hR
  cases es with
  | nil =>
    simp (implicitDefEqProofs := false) [ir_slices_Clone_reredos_api_Message_reredos_api_Message]
    exact ⟨hR _ [(0, none)] (by simp (implicitDefEqProofs := false)), hR _ [(0, some 7)] (by simp (implicitDefEqProofs := false))⟩
  | cons e es =>
    simp only [List.length_cons] at h
    simp (implicitDefEqProofs := false) [ir_slices_Clone_reredos_api_Message_reredos_api_Message]
    exact ⟨⟨by omega, by omega⟩, hR _ [(0, some 7)] (by simp (implicitDefEqProofs := false))⟩
set_option maxRecDepth 100000 in
set_option maxHeartbeats 4000000 in
theorem v_NOwn (h1 : T.sp n_slices_Clone_reredos_api_Message_reredos_api_Message = some (sp_Cln 12)) : Verified T ir_net_own sp_NOwn := by
  refine Verified.mkx rfl ?_
  rintro ds ob ⟨fs, rfl, rfl, hl, hq⟩ R hR
  rw [NOwn_F] at hR
  have x1 : ∀ k, (sp_Cln k).hx = some (hs_Cln k) := fun _ => rfl
  simp (implicitDefEqProofs := false) [ir_net_own]
  refine k_loop (ι := {i : Nat // i ≤ fs.length}) (fun x => ⟨mkTm 19 0 [(3, .row 100), (6, .fz 1 (fs.map flyF)), (7, .int .i64 fs.length), (8, .int .i64 x.1)], [(100, .rws 1 ((fs.take x.1).map flyS))]⟩)
    (fun x => fs.length - x.1) [(100, none)] ⟨0, by omega⟩ (by simp) ?_
  rintro ⟨i, hi⟩ P hP
  rcases Nat.lt_or_ge i fs.length with h | h
  · have hi1 : (i : Int) < fs.length := by omega
    have hel := elem_map flyF fs i h
    have hqi := hq fs[i] (List.getElem_mem h)
    have p1 := Cln_pre (sz := 12) (es := fs[i].map msgC) (by simpa using (show fs[i].length ≤ 100000 by omega))
    have ht : fs.take (i + 1) = fs.take i ++ [fs[i]] := (List.take_append_getElem h).symm
    have htl : (fs.take i).length = i := by rw [List.length_take]; omega
    simp only [flyF] at hel
    have hinv : List.take (i + 1) (fs.map flyS) = List.take i (fs.map flyS) ++ [[.sub 12 (fs[i].map msgC)]] := by rw [← List.map_take, ← List.map_take, ht]; simp only [List.map_append, List.map_cons, List.map_nil, flyS]
    simp (implicitDefEqProofs := false) [ir_net_own_b0, hi1, h, hel, h1, x1, p1, Cln_F]
    exact ⟨by omega, by simp only [inR]; omega, hP _ [(100, some 16)] ⟨i + 1, by omega⟩ (by simp (implicitDefEqProofs := false) [hinv]) (by simp only; omega)⟩
  · have hi1 : ¬ (i : Int) < fs.length := by omega
    obtain rfl : i = fs.length := by omega
    simp (implicitDefEqProofs := false) [ir_net_own_b0, ir_net_own_r1, hi1]
    exact hR _ [(0, some 100)] (by simp (implicitDefEqProofs := false))
theorem v_NEmpty (h1 : T.sp n_label_Check = some sp_Check) : Verified T ir_net_Empty sp_NEmpty := by
  refine Verified.mk ?_
  rintro ds ⟨S, ls, P, rfl, hc, hS⟩
  have x1 : sp_Check.hx = none := rfl
  have f1 := check_F S P ls
  have p1 := check_pre S P ls
  rw [hc] at f1
  simp only [cfgD] at f1 p1
  have hm : S * S ≤ 4 * 4 := Int.mul_le_mul hS.2 hS.2 (by omega) (by omega)
  have hm0 : 0 ≤ S * S := Int.mul_nonneg (by omega) (by omega)
  have hF : sp_NEmpty.F [cfgD S ls P] = .tup [.fz 1 (List.replicate (S * S).toNat (flyF [])), .int .i64 0] := by simp only [sp_NEmpty, cfgOf_cfgD]
  rw [hF]
  simp (implicitDefEqProofs := false) [ir_net_Empty, cfgD, flyF, h1, x1, f1, p1, inR, hm0]
  omega
set_option maxRecDepth 100000 in
set_option maxHeartbeats 8000000 in
theorem v_NCheck (h1 : T.sp n_label_Check = some sp_Check) (h2 : T.sp n_wire_CheckMessage = some sp_CheckMessage) : Verified T ir_net_Check sp_NCheck := by
  refine Verified.mk ?_
  rintro ds ⟨S, ls, P, fs, rfl, hf⟩
  rw [NCheck_F]
  have hle := hf.le
  obtain ⟨hc, hS, hlen, hq⟩ := hf
  have x1 : sp_Check.hx = none := rfl
  have x2 : sp_CheckMessage.hx = none := rfl
  have f1 := check_F S P ls
  have p1 := check_pre S P ls
  rw [hc] at f1
  simp only [cfgD] at f1 p1
  have f2 := chkM_F S P ls
  have p2 := chkM_pre S P ls
  simp only [cfgD, msgD] at f2 p2
  have hm : S * S ≤ 4 * 4 := Int.mul_le_mul hS.2 hS.2 (by omega) (by omega)
  have hm0 : 0 ≤ S * S := Int.mul_nonneg (by omega) (by omega)
  have hin : inR .i64 (S * S) := by simp only [inR]; omega
  have hS0 : 0 < S := by omega
  have hSn : ¬ S = 0 := by omega
  simp (implicitDefEqProofs := false) [ir_net_Check, cfgD, h1, x1, f1, p1, hlen, hin]
  refine k_loop (ι := {i : Nat // i ≤ fs.length}) (fun x => ⟨mkTm 63 0 [(2, .own 2 0), (23, .fz 1 (fs.map flyF)), (24, .int .i64 fs.length), (25, .int .i64 x.1)], [(2, .box [.int .i64 S, .fz 2 (ls.map lbc), .int .i64 P])]⟩)
    (fun x => fs.length - x.1) [] ⟨0, by omega⟩ (by simp [hlen]) ?_
  rintro ⟨i, hi⟩ P' hP
  rcases Nat.lt_or_ge i fs.length with h | h
  · have hi1 : (i : Int) < fs.length := by omega
    have hel := elem_map flyF fs i h
    obtain ⟨hq1, hq2⟩ := hq i h
    generalize fs[i] = q at hel hq1 hq2
    simp only [flyF] at hel
    have hq30 : ¬ 30 < (q.length : Int) := by omega
    have hii : inR .i64 (i : Int) := by simp only [inR]; omega
    simp (implicitDefEqProofs := false) [ir_net_Check_b2, hi1, h, hel, hq30]
    refine k_loop (ι := {j : Nat // j ≤ q.length}) (fun x => ⟨mkTm 63 0 [(2, .own 2 0), (6, .int .i64 i), (23, .fz 1 (fs.map flyF)), (24, .int .i64 fs.length), (25, .int .i64 i), (33, .fz 12 (q.map msgC)), (34, .int .i64 q.length), (35, .int .i64 x.1)], [(2, .box [.int .i64 S, .fz 2 (ls.map lbc), .int .i64 P])]⟩)
      (fun x => q.length - x.1) [] ⟨0, by omega⟩ (by simp) ?_
    rintro ⟨j, hj⟩ P2 hP2
    rcases Nat.lt_or_ge j q.length with h' | h'
    · have hj1 : (j : Int) < q.length := by omega
      have hel2 := elem_map msgC q j h'
      obtain ⟨c1, c2, c3⟩ := hq2 q[j] (List.getElem_mem h')
      have f2' := f2 q[j]
      have p2' := p2 q[j]
      generalize q[j] = m at hel2 c1 c2 c3 f2' p2'
      rw [c1] at f2'
      obtain ⟨m1, m2, m3, m4, m5, m6, m7, m8, m9, m10, m11, m12⟩ := m
      simp only [msgC] at hel2 f2' p2' c2 c3
      have c2' : (i : Int) / S = m2 := by rw [← Int.tdiv_eq_ediv_of_nonneg (by omega)]; exact c2.symm
      have c3' : (i : Int) % S = m3 := by rw [← Int.tmod_eq_emod_of_nonneg (by omega)]; exact c3.symm
      simp (implicitDefEqProofs := false) [ir_net_Check_b0, ir_net_Check_r1, hj1, h', hel2, h2, x2, f2', p2', c2.symm, c3.symm, c2', c3', hS0, hSn, hii]
      refine ⟨by simp only [inR]; omega, hP2 _ [] ⟨j + 1, by omega⟩ (by simp) (by simp only; omega)⟩
    · have hj1 : ¬ (j : Int) < q.length := by omega
      simp (implicitDefEqProofs := false) [ir_net_Check_b0, ir_net_Check_r1, hj1]
      exact ⟨by simp only [inR]; omega, hP _ [] ⟨i + 1, by omega⟩ (by simp) (by simp only; omega)⟩
  · have hi1 : ¬ (i : Int) < fs.length := by omega
    simp (implicitDefEqProofs := false) [ir_net_Check_b2, ir_net_Check_r3, hi1]
end
end Go.Proofs.YtopdccbcknlepaaDoor
