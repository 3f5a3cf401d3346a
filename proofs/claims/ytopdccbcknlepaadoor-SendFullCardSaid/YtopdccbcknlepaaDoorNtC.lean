/-
  Messages on their way: net.Send. Conditions: those of its specification's 'pre', and that the functions that are called are what theirs say.
-/
import Derived.Test.YtopdccbcknlepaaDoorNtB
set_option linter.unusedVariables false
set_option linter.unusedSimpArgs false
namespace Go.Proofs.YtopdccbcknlepaaDoor
open Go Go.Vcg

theorem chkM_zero {s : Int} {ls : List (Int × Int)} {p : Int} {m : Ms} (h : chkM s ls p m = 0) : check s ls p = 0 ∧ 1 ≤ m.kind ∧ m.kind ≤ 9 ∧ okRange s ls.length m ∧ okForm m := by
  unfold chkM at h
  split at h
  · rename_i h1; exact absurd h h1
  · rename_i h1
    split at h
    · cases h
    · rename_i h2
      split at h
      · cases h
      · rename_i h3
        split at h
        · cases h
        · rename_i h4
          exact ⟨Classical.not_not.1 h1, by omega, by omega, Classical.not_not.1 h3, Classical.not_not.1 h4⟩
/-- Where a message is on its way. -/
def wayI (S : Int) (m : Ms) : Nat := (m.frm * S + m.to).toNat
def pushM (S : Int) (fs : List (List Ms)) (m : Ms) : List (List Ms) := if (fs.getD (wayI S m) []).length < 30 then fs.set (wayI S m) (fs.getD (wayI S m) [] ++ [m]) else fs
def sendF (S : Int) (fs : List (List Ms)) (ms : List Ms) : List (List Ms) := ms.foldl (pushM S) fs
theorem way_ok {S a b : Int} (hS : 1 ≤ S ∧ S ≤ 4) (ha : 0 ≤ a ∧ a < S) (hb : 0 ≤ b ∧ b < S) : 0 ≤ a * S + b ∧ a * S + b < S * S ∧ (a * S + b).tdiv S = a ∧ (a * S + b).tmod S = b := by
  have h0 : 0 ≤ a * S := Int.mul_nonneg ha.1 (by omega)
  have h1 : a * S ≤ (S - 1) * S := Int.mul_le_mul_of_nonneg_right (by omega) (by omega)
  rw [Int.sub_mul, Int.one_mul] at h1
  have h2 : (a * S + b).tdiv S = a := by
    rw [Int.tdiv_eq_ediv_of_nonneg (by omega), Int.add_comm, Int.add_mul_ediv_right _ _ (by omega), Int.ediv_eq_zero_of_lt hb.1 hb.2]; omega
  have h3 : (a * S + b).tmod S = b := by
    rw [Int.tmod_eq_emod_of_nonneg (by omega), Int.add_comm, Int.add_mul_emod_self_right, Int.emod_eq_of_lt hb.1 hb.2]
  exact ⟨by omega, by omega, h2, h3⟩
theorem wayI_eq {S P : Int} {ls : List (Int × Int)} {m : Ms} (hS : 1 ≤ S ∧ S ≤ 4) (hm : chkM S ls P m = 0) : ((wayI S m : Nat) : Int) = m.frm * S + m.to ∧ m.frm * S + m.to < S * S ∧ m.frm = ((wayI S m : Nat) : Int).tdiv S ∧ m.to = ((wayI S m : Nat) : Int).tmod S := by
  obtain ⟨_, _, _, ⟨r1, r2, r3, r4, _⟩, _⟩ := chkM_zero hm
  obtain ⟨h1, h2, h3, h4⟩ := way_ok hS ⟨r1, r2⟩ ⟨r3, r4⟩
  have e : ((wayI S m : Nat) : Int) = m.frm * S + m.to := by simp only [wayI]; omega
  exact ⟨e, h2, by rw [e, h3], by rw [e, h4]⟩
theorem pushM_length (S : Int) (fs : List (List Ms)) (m : Ms) : (pushM S fs m).length = fs.length := by
  unfold pushM; split <;> simp
theorem okFly.push {S P : Int} {ls : List (Int × Int)} {fs : List (List Ms)} (h : okFly S ls P fs) {m : Ms} (hm : chkM S ls P m = 0) : okFly S ls P (pushM S fs m) := by
  obtain ⟨w1, w2, w3, w4⟩ := wayI_eq h.sites hm
  refine ⟨h.chk, h.sites, by rw [pushM_length]; exact h.len, fun i hi => ?_⟩
  have hlt : wayI S m < fs.length := by have := h.len; omega
  unfold pushM at hi ⊢
  split
  · rename_i hq
    simp only [if_pos hq] at hi
    rw [List.length_set] at hi
    rw [List.getElem_set]
    split
    · rename_i he
      subst he
      have hg : fs.getD (wayI S m) [] = fs[wayI S m] := by simp [List.getD, hlt]
      rw [hg] at hq ⊢
      obtain ⟨q1, q2⟩ := h.q _ hlt
      refine ⟨by simp; omega, fun x hx => ?_⟩
      rcases List.mem_append.1 hx with hx | hx
      · exact q2 x hx
      · rw [List.mem_singleton] at hx
        subst hx
        exact ⟨hm, w3, w4⟩
    · exact h.q i hi
  · rename_i hq
    simp only [if_neg hq] at hi
    exact h.q i hi
theorem okFly.send {S P : Int} {ls : List (Int × Int)} : ∀ {ms : List Ms} {fs : List (List Ms)}, okFly S ls P fs → (∀ m ∈ ms, chkM S ls P m = 0) → okFly S ls P (sendF S fs ms)
  | [], fs, h, _ => h
  | m :: ms, fs, h, hm => okFly.send (ms := ms) (h.push (hm m (by simp))) (fun x hx => hm x (by simp [hx]))
theorem okFly.empty {S P : Int} {ls : List (Int × Int)} (hc : check S ls P = 0) (hS : 1 ≤ S ∧ S ≤ 4) : okFly S ls P (List.replicate (S * S).toNat []) := by
  have hm0 : 0 ≤ S * S := Int.mul_nonneg (by omega) (by omega)
  refine ⟨hc, hS, by simp; omega, fun i hi => ?_⟩
  rw [List.getElem_replicate]
  exact ⟨by simp, by simp⟩

def flyOf : List D → List Ms
  | [.fz _ q] => q.map msgL
  | _ => []
theorem msgL_map (q : List Ms) : (q.map msgC).map msgL = q := by
  rw [List.map_map]
  have : msgL ∘ msgC = id := by funext m; rfl
  rw [this, List.map_id]
theorem flyOf_map (fs : List (List Ms)) : (fs.map flyF).map flyOf = fs := by
  rw [List.map_map]
  have : flyOf ∘ flyF = id := by funext q; simp only [Function.comp, flyF, flyOf, msgL_map, id]
  rw [this, List.map_id]
def sp_NSend : Sp := { pre := fun ds => ∃ (S : Int) (ls : List (Int × Int)) (P : Int) (fs : List (List Ms)) (ms : List Ms), ds = [cfgD S ls P, .fz 1 (fs.map flyF), .fz 12 (ms.map msgC)] ∧ okFly S ls P fs ∧ (∀ m ∈ ms, chkM S ls P m = 0) ∧ ms.length ≤ 100000, F := fun | [x, .fz _ es, .fz _ qs] => .tup [.fz 1 ((sendF (cfgOf x).1 (es.map flyOf) (qs.map msgL)).map flyF), .int .i64 0] | _ => .any }
theorem NSend_pre {S P : Int} {ls : List (Int × Int)} {fs : List (List Ms)} {ms : List Ms} (h : okFly S ls P fs) (h1 : ∀ m ∈ ms, chkM S ls P m = 0) (h2 : ms.length ≤ 100000) : sp_NSend.pre [cfgD S ls P, .fz 1 (fs.map flyF), .fz 12 (ms.map msgC)] = True := by
  simp only [sp_NSend, eq_iff_iff, iff_true]; exact ⟨S, ls, P, fs, ms, rfl, h, h1, h2⟩
theorem NSend_F (S P : Int) (ls : List (Int × Int)) (fs : List (List Ms)) (ms : List Ms) : sp_NSend.F [cfgD S ls P, .fz 1 (fs.map flyF), .fz 12 (ms.map msgC)] = .tup [.fz 1 ((sendF S fs ms).map flyF), .int .i64 0] := by
  simp only [sp_NSend, cfgOf_cfgD, flyOf_map, msgL_map]
theorem sendF_take {S : Int} {fs : List (List Ms)} {ms : List Ms} {j : Nat} (h : j < ms.length) : sendF S fs (ms.take (j + 1)) = pushM S (sendF S fs (ms.take j)) ms[j] := by
  rw [(List.take_append_getElem h).symm]
  simp only [sendF, List.foldl_append, List.foldl_cons, List.foldl_nil]

section
variable {T : Tb}
attribute [local simp] k_seq k_block k_skip k_reg k_alt k_cond k_exit k_ret kf_nil kf_seq_n kf_seq_e kf_seq_r kf_blk_n kf_blk_e kf_blk_r kf_lp_n kf_lp_e kf_lp_r kf_cut_n kf_cut_e kf_cut_r mkTm VCops VCalt istep act gd applyE wrapD Opd.ev get_mk set_mk set_mk0 tget16 tset16 tget_0 tset_0 tget_1 tset_1 tget_2 tset_2 tget_3 tset_3 tget_4 tset_4 tget_5 tset_5 tget_6 tset_6 tget_7 tset_7 tget_8 tset_8 tget_9 tset_9 tget_10 tset_10 tget_11 tset_11 tget_12 tset_12 tget_13 tset_13 tget_14 tset_14 tget_15 tset_15 D.un D.gu gus IOp.opds binD fnPost getRes IRes.get oneRes D.out outL D.clos closL D.norow norowL D.lv lvL D.scal scalL D.cells D.cell D.cell' St.lk obPut obDel List.lookup cut pickD splice fillParts fillRows elem_cons newsOf D.pl D.forget forgetL Ob.forget forgetO eqCells sg leD leDL leOb apartK St.le D.keys keysL D.rows rowsL obKeys addKeys reach pos D.ren renL Ob.ren inM outM inObs outObs goneK apartN okNames_eq okNms obNms namesOK_nil namesOK_cons freeOK_nil freeOK_cons D.frz frzL Ob.frz frzO St.frz forgetLs dropObs putObs hcall freeOf keeps baseN shD isShift shMax k_bad VCopsG frz_nil actx actc cnum vwCut St.frzT St.opnT St.clsT D.opn opnL Ob.opn opnO VCou VCcx St.oneS D.objI D.objK scrL D.scr St.opnS St.clsS D.cellS D.fzs fzsL k_mrk IOper.gh
set_option maxRecDepth 100000 in
set_option maxHeartbeats 8000000 in
theorem v_NSend (h1 : T.sp n_net_Check = some sp_NCheck) (h2 : T.sp n_wire_CheckMessage = some sp_CheckMessage) (h3 : T.sp n_net_own = some sp_NOwn) : Verified T ir_net_Send sp_NSend := by
  refine Verified.mk ?_
  rintro ds ⟨S, ls, P, fs, ms, rfl, hf, hms, hml⟩
  rw [NSend_F]
  have x1 : sp_NCheck.hx = none := rfl
  have x2 : sp_CheckMessage.hx = none := rfl
  have x3 : sp_NOwn.hx = some hs_NOwn := rfl
  have f1 := NCheck_F
  have p1 := NCheck_pre hf
  have f2 := chkM_F S P ls
  have p2 := chkM_pre S P ls
  have p3 := NOwn_pre (fs := fs) (by have := hf.le; omega) (by
    intro q hq
    obtain ⟨i, hi, rfl⟩ := List.getElem_of_mem hq
    have := (hf.q i hi).1
    omega)
  have f3 := NOwn_F fs
  simp only [cfgD, msgD] at p1 f2 p2
  have hS := hf.sites
  simp (implicitDefEqProofs := false) [ir_net_Send, cfgD, h1, x1, f1, p1]
  refine k_loop (ι := {j : Nat // j ≤ ms.length}) (fun x => ⟨mkTm 69 0 [(1, .fz 1 (fs.map flyF)), (2, .fz 12 (ms.map msgC)), (3, .own 3 0), (22, .fz 12 (ms.map msgC)), (23, .int .i64 ms.length), (24, .int .i64 x.1)], [(3, .box [.int .i64 S, .fz 2 (ls.map lbc), .int .i64 P])]⟩)
    (fun x => ms.length - x.1) [] ⟨0, by omega⟩ (by simp) ?_
  rintro ⟨j, hj⟩ P' hP
  rcases Nat.lt_or_ge j ms.length with h | h
  · have hj1 : (j : Int) < ms.length := by omega
    have hel := elem_map msgC ms j h
    have c1 := hms ms[j] (List.getElem_mem h)
    have f2' := f2 ms[j]
    have p2' := p2 ms[j]
    generalize ms[j] = m at hel c1 f2' p2'
    rw [c1] at f2'
    obtain ⟨m1, m2, m3, m4, m5, m6, m7, m8, m9, m10, m11, m12⟩ := m
    simp only [msgC] at hel f2' p2'
    simp (implicitDefEqProofs := false) [ir_net_Send_b0, hj1, h, hel, h2, x2, f2', p2']
    exact ⟨by simp only [inR]; omega, hP _ [] ⟨j + 1, by omega⟩ (by simp) (by simp only; omega)⟩
  · have hj1 : ¬ (j : Int) < ms.length := by omega
    simp (implicitDefEqProofs := false) [ir_net_Send_b0, ir_net_Send_r3, hj1, h3, x3, p3, f3]
    refine k_loop (ι := {j : Nat // j ≤ ms.length}) (fun x => ⟨mkTm 69 0 [(3, .own 3 0), (12, .row 100), (37, .fz 12 (ms.map msgC)), (38, .int .i64 ms.length), (39, .int .i64 x.1)], [(3, .box [.int .i64 S, .fz 2 (ls.map lbc), .int .i64 P]), (100, .rws 1 ((sendF S fs (ms.take x.1)).map flyS))]⟩)
      (fun x => ms.length - x.1) [(100, some 370000)] ⟨0, by omega⟩ (by simp [sendF]) ?_
    rintro ⟨j, hj⟩ P2 hP2
    rcases Nat.lt_or_ge j ms.length with h | h
    · have hj1 : (j : Int) < ms.length := by omega
      have hel := elem_map msgC ms j h
      have c1 := hms ms[j] (List.getElem_mem h)
      have hst := sendF_take (S := S) (fs := fs) h
      have hG := hf.send (ms := ms.take j) (fun x hx => hms x (List.mem_of_mem_take hx))
      generalize ms[j] = m at hel c1 hst
      generalize sendF S fs (ms.take j) = G at hst hG ⊢
      obtain ⟨w1, w2, w3, w4⟩ := wayI_eq hS c1
      have hlen := hG.len
      have hle16 := hG.le
      have hlt : wayI S m < G.length := by omega
      have helG := elem_map flyS G (wayI S m) hlt
      have hq := (hG.q _ hlt).1
      have hps : pushM S G m = if G[wayI S m].length < 30 then G.set (wayI S m) (G[wayI S m] ++ [m]) else G := by simp [pushM, List.getD, hlt]
      have hfr : inR .i64 (m.frm * S) ∧ inR .i64 (m.frm * S + m.to) := by
        obtain ⟨_, _, _, ⟨r1, r2, r3, r4, _⟩, _⟩ := chkM_zero c1
        have := hG.le
        simp only [inR]; omega
      generalize wayI S m = i at *
      generalize hQ : G[i] = q at helG hq hps
      obtain ⟨m1, m2, m3, m4, m5, m6, m7, m8, m9, m10, m11, m12⟩ := m
      simp only [msgC] at hel w1 hfr
      simp only [flyS] at helG
      have hi1 : (i : Int) < G.length := by omega
      have hi0 : (0 : Int) ≤ i := by omega
      simp (implicitDefEqProofs := false) [ir_net_Send_b1, hj1, h, hel, w1.symm, hfr.1, helG, hi1, hlt]
      have e2 : (G.map flyS).set i [.sub 12 (q.map msgC)] = G.map flyS := by
        have : [D.sub 12 (q.map msgC)] = (G.map flyS)[i]'(by simpa using hlt) := by rw [List.getElem_map, hQ, flyS]
        rw [this, List.set_getElem_self]
      refine ⟨by simp only [inR]; omega, fun h30 => ⟨by omega, by simp only [inR]; omega, hP2 _ [] ⟨j + 1, by omega⟩ ?_ (by simp only; omega)⟩, fun h30 => ⟨by simp only [inR]; omega, hP2 _ [] ⟨j + 1, by omega⟩ ?_ (by simp only; omega)⟩⟩
      · have e1 : (sendF S fs (ms.take (j + 1))).map flyS = (G.map flyS).set i [.sub 12 (q.map msgC ++ [[.int .i64 m1, .int .i64 m2, .int .i64 m3, .int .i64 m4, .int .i64 m5, .int .i64 m6, .int .i64 m7, .int .i64 m8, .int .i64 m9, .int .i64 m10, .bool m11, .int .i64 m12]])] := by
          rw [hst, hps, if_pos (by omega), List.map_set]
          simp only [flyS, List.map_append, List.map_cons, List.map_nil, msgC]
        simp (implicitDefEqProofs := false) [e1]
      · have e1 : (sendF S fs (ms.take (j + 1))).map flyS = G.map flyS := by rw [hst, hps, if_neg (by omega)]
        simp (implicitDefEqProofs := false) [e1, e2]
    · have hj1 : ¬ (j : Int) < ms.length := by omega
      obtain rfl : j = ms.length := by omega
      simp (implicitDefEqProofs := false) [ir_net_Send_b1, ir_net_Send_r2, hj1, outE_fly]
end
end Go.Proofs.YtopdccbcknlepaaDoor
