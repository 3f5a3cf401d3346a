/-
  SendFull answers true on data. Conditions: those of each specification's 'pre', and that the functions that are called are what theirs say.
-/
import Derived.Test.YtopdccbcknlepaaDoorNtF
set_option linter.unusedVariables false
set_option linter.unusedSimpArgs false
namespace Go.Proofs.YtopdccbcknlepaaDoor
open Go Go.Vcg

def sp_SendFull : Sp := { pre := fun ds => ∃ (s : Int) (l : List Int) (r : Rw) (n : Int), ds = [.int .i64 s, intsD l, rawD r, .int .i64 n] ∧ inR .i64 s ∧ okInts l ∧ okRaw r ∧ inR .i64 n, F := fun _ => .bool true }
section
variable {T : Tb}
attribute [local simp] k_seq k_block k_skip k_reg k_alt k_cond k_exit k_ret kf_nil kf_seq_n kf_seq_e kf_seq_r kf_blk_n kf_blk_e kf_blk_r kf_lp_n kf_lp_e kf_lp_r kf_cut_n kf_cut_e kf_cut_r mkTm VCops VCalt istep act gd applyE wrapD Opd.ev get_mk set_mk set_mk0 tget16 tset16 tget_0 tset_0 tget_1 tset_1 tget_2 tset_2 tget_3 tset_3 tget_4 tset_4 tget_5 tset_5 tget_6 tset_6 tget_7 tset_7 tget_8 tset_8 tget_9 tset_9 tget_10 tset_10 tget_11 tset_11 tget_12 tset_12 tget_13 tset_13 tget_14 tset_14 tget_15 tset_15 D.un D.gu gus IOp.opds binD fnPost getRes IRes.get oneRes D.out outL D.clos closL D.norow norowL D.lv lvL D.scal scalL D.cells D.cell D.cell' St.lk obPut obDel List.lookup cut pickD splice fillParts fillRows elem_cons newsOf D.pl D.forget forgetL Ob.forget forgetO eqCells sg leD leDL leOb apartK St.le D.keys keysL D.rows rowsL obKeys addKeys reach pos D.ren renL Ob.ren inM outM inObs outObs goneK apartN okNames_eq okNms obNms namesOK_nil namesOK_cons freeOK_nil freeOK_cons D.frz frzL Ob.frz frzO St.frz forgetLs dropObs putObs hcall freeOf keeps baseN shD isShift shMax k_bad VCopsG frz_nil actx actc cnum vwCut St.frzT St.opnT St.clsT D.opn opnL Ob.opn opnO VCou VCcx St.oneS D.objI D.objK scrL D.scr St.opnS St.clsS D.cellS D.fzs fzsL k_mrk IOper.gh
set_option maxRecDepth 100000 in
set_option maxHeartbeats 16000000 in
theorem v_SendFull (h1 : T.sp n_reredoskeep_Config = some sp_Config) (h2 : T.sp n_reredoskeep_Message = some sp_Message) (h3 : T.sp n_net_Empty = some sp_NEmpty) (h4 : T.sp n_net_Send = some sp_NSend) (h5 : T.sp n_reredoskeep_count = some sp_count) (h6 : T.sp n_net_Take = some sp_NTake) (h7 : T.sp n_reredoskeep_picked = some sp_picked) : Verified T ir_reredoskeep_SendFull sp_SendFull := by
  refine Verified.mk ?_
  rintro ds ⟨s, l, r, n, rfl, hs, hl, hr, hn⟩
  have hF : sp_SendFull.F [.int .i64 s, intsD l, rawD r, .int .i64 n] = .bool true := rfl
  rw [hF]
  have x1 : sp_Config.hx = none := rfl
  have x2 : sp_Message.hx = none := rfl
  have x3 : sp_NEmpty.hx = none := rfl
  have x4 : sp_NSend.hx = none := rfl
  have x5 : sp_count.hx = none := rfl
  have x6 : sp_NTake.hx = none := rfl
  have x7 : sp_picked.hx = none := rfl
  have bS := pk_bounds s 3 (by decide)
  have f1 := conf_F s 1 l
  have p1 := conf_pre hs hl (p := 1) (by simp [inR])
  have hP : 1 + pk 1 4 = 2 := by decide
  rw [hP] at f1
  have hc : check (1 + pk s 3) (cfgLs l) 2 = 0 := check_config (pk s 3) 1 l bS (by decide)
  have hsl := okSL_config (pk s 3) 2 l bS
  have hlen := (cfgLs_good l).2.2
  have hS : 1 ≤ 1 + pk s 3 ∧ 1 + pk s 3 ≤ 4 := by omega
  generalize 1 + pk s 3 = S at f1 hc hsl hS
  generalize cfgLs l = ls at f1 hc hsl hlen
  have f2 := mess_F S 2 ls r
  have p2 := mess_pre hsl hr
  have hm : chkM S ls 2 (mkMsg S ls.length r) = 0 := mkMsg_ok S 2 ls r hc (by omega) (by omega)
  generalize mkMsg S ls.length r = m at f2 hm
  have bK := pk_bounds n 90 (by decide)
  have q7 : sp_picked.F [.int .i64 n, .int .i64 90] = .int .i64 (pk n 90) := rfl
  have p7 : sp_picked.pre [.int .i64 n, .int .i64 90] = True := by
    simp only [sp_picked, eq_iff_iff, iff_true]; exact ⟨n, 90, rfl, hn, by decide⟩
  obtain ⟨K, hK⟩ := Int.eq_ofNat_of_zero_le bK.1
  rw [hK] at bK q7
  have hK90 : K < 90 := by omega
  have f3 := empty_F S 2 ls
  have p3 := empty_pre hc hS
  have h0 : okFly S ls 2 (List.replicate (S * S).toNat []) := okFly.empty hc hS
  have hms : ∀ x ∈ List.replicate K m, chkM S ls 2 x = 0 := fun x hx => by rw [(List.mem_replicate.1 hx).2]; exact hm
  have f4 := NSend_F S 2 ls (List.replicate (S * S).toNat []) (List.replicate K m)
  have p4 := NSend_pre h0 hms (by simp; omega)
  have hfly := h0.send hms
  have hm0 : 0 ≤ S * S := Int.mul_nonneg (by omega) (by omega)
  obtain ⟨w1, w2, _, _⟩ := wayI_eq hS hm
  have hwl : wayI S m < (List.replicate (S * S).toNat ([] : List Ms)).length := by simp; omega
  obtain ⟨g1, g2⟩ := sendF_same S m K (List.replicate (S * S).toNat []) hwl (by simp)
  rw [cnt_replicate] at g2
  simp only [List.getElem_replicate, List.length_nil, Nat.sub_zero, List.nil_append, Nat.zero_add] at g1 g2
  generalize List.replicate (S * S).toNat ([] : List Ms) = E0 at f3 f4 p4 hfly g1 g2
  generalize sendF S E0 (List.replicate K m) = G at f4 hfly g1 g2
  have hG16 := hfly.le
  have f5 := count_F G
  have p5 := count_pre (fs := G) (by omega) (by
    intro q hq
    obtain ⟨i, hi, rfl⟩ := List.getElem_of_mem hq
    have := (hfly.q i hi).1
    omega)
  have hci : ((cnt G : Nat) : Int) = min (K : Int) 30 := by rw [g2]; omega
  rw [hci] at f5
  obtain ⟨_, _, _, ⟨r1, r2, r3, r4, _⟩, _⟩ := chkM_zero hm
  have f6 := NTake_F S 2 ls G m.frm m.to 0 4
  have p6 := NTake_pre hfly ⟨r1, r2⟩ ⟨r3, r4⟩ (p := 0) (by omega) (k := 4) (by omega)
  have htk : (takeF S G m.frm m.to 0 4).2.2 = if K = 0 then 6 else if 30 ≤ K then 8 else 0 := by
    have e : (m.frm * S + m.to).toNat = wayI S m := rfl
    simp only [takeF, e, g1, List.length_replicate]
    by_cases k0 : K = 0
    · simp [k0]
    · by_cases k30 : 30 ≤ K
      · rw [if_neg (by omega), if_pos ⟨trivial, by omega⟩, if_neg k0, if_pos k30]
      · rw [if_neg (by omega), if_neg (by omega), if_neg k0, if_neg k30]; simp
  simp only [takeD] at f6
  generalize takeF S G m.frm m.to 0 4 = R at f6 htk
  obtain ⟨R1, R2, R3⟩ := R
  simp only at f6 htk
  subst htk
  clear g1 g2 hci hfly hms hm w1 w2 hwl h0 r1 r2 r3 r4
  obtain ⟨m1, m2, m3, m4, m5, m6, m7, m8, m9, m10, m11, m12⟩ := m
  obtain ⟨y1, y2, y3, y4, y5, y6, y7, y8, y9, y10, y11, y12⟩ := R2
  obtain ⟨k, a, b, c, d, e⟩ := r
  simp only [cfgD, rawD, rawC, msgD, msgC, List.map_replicate] at f1 f2 p2 f3 p3 f4 p4 f6 p6
  have hMle : inR .i64 (K : Int) := by simp only [inR]; omega
  simp (implicitDefEqProofs := false) (maxSteps := 10000000) [ir_reredoskeep_SendFull, intsD, rawD, rawC, h1, x1, f1, p1, h2, x2, f2, p2, h7, x7, q7, p7]
  refine k_loop (ι := {i : Nat // i ≤ K}) (fun x => ⟨mkTm 85 0 [(9, .own 9 0), (10, .own 10 0), (11, .int .i64 (K : Int)), (12, .row 100), (13, .int .i64 x.1)], [(9, .box [.int .i64 S, .fz 2 (ls.map lbc), .int .i64 2]), (10, .box [.int .i64 m1, .int .i64 m2, .int .i64 m3, .int .i64 m4, .int .i64 m5, .int .i64 m6, .int .i64 m7, .int .i64 m8, .int .i64 m9, .int .i64 m10, .bool m11, .int .i64 m12]), (100, .row 12 (List.replicate x.1 [.int .i64 m1, .int .i64 m2, .int .i64 m3, .int .i64 m4, .int .i64 m5, .int .i64 m6, .int .i64 m7, .int .i64 m8, .int .i64 m9, .int .i64 m10, .bool m11, .int .i64 m12]))]⟩)
    (fun x => K - x.1) [(100, none)] ⟨0, by omega⟩ (by simp (implicitDefEqProofs := false)) ?_
  rintro ⟨i, hi⟩ P' hP'
  rcases Nat.lt_or_ge i K with h | h
  · have hi1 : (i : Int) < K := by omega
    simp (implicitDefEqProofs := false) [ir_reredoskeep_SendFull_b0, hi1, h]
    refine ⟨by omega, by simp only [inR]; omega, hP' _ [(100, some 36)] ⟨i + 1, by omega⟩ ?_ (by simp only; omega)⟩
    simp (implicitDefEqProofs := false) [List.replicate_succ']
  · have hi1 : ¬ (i : Int) < K := by omega
    obtain rfl : i = K := by omega
    by_cases k0 : i = 0
    · subst k0
      simp only [List.replicate_zero, if_true, Int.natCast_zero] at f4 p4 f6 p6
      simp (implicitDefEqProofs := false) [ir_reredoskeep_SendFull_b0, ir_reredoskeep_SendFull_r1, h3, x3, f3, p3, h4, x4, f4, p4, h5, x5, f5, p5, h6, x6, f6, p6]
    · have k0' : ¬ (i : Int) = 0 := by omega
      by_cases k30 : 30 ≤ i
      · have k30' : (30 : Int) ≤ i := by omega
        simp only [if_neg k0, if_pos k30] at f6
        simp (implicitDefEqProofs := false) [ir_reredoskeep_SendFull_b0, ir_reredoskeep_SendFull_r1, hi1, h3, x3, f3, p3, h4, x4, f4, p4, h5, x5, f5, p5, h6, x6, f6, p6, k0, k0', k30']
      · have k30' : ¬ (30 : Int) ≤ i := by omega
        simp only [if_neg k0, if_neg k30] at f6
        simp (implicitDefEqProofs := false) [ir_reredoskeep_SendFull_b0, ir_reredoskeep_SendFull_r1, hi1, h3, x3, f3, p3, h4, x4, f4, p4, h5, x5, f5, p5, h6, x6, f6, p6, k0, k0', k30']
end
end Go.Proofs.YtopdccbcknlepaaDoor
