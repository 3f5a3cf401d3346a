/-
  TakeOne answers true on data. Conditions: those of each specification's 'pre', and that the functions that are called are what theirs say.
-/
import Derived.Test.YtopdccbcknlepaaDoorNtG
set_option linter.unusedVariables false
set_option linter.unusedSimpArgs false
namespace Go.Proofs.YtopdccbcknlepaaDoor
open Go Go.Vcg

theorem delE_length {α : Type} {l : List α} {i : Nat} (h : i < l.length) : (delE l i).length + 1 = l.length := by
  simp only [delE, List.length_append, List.length_take, List.length_drop]; omega
def sp_TakeOne : Sp := { pre := fun ds => ∃ (s : Int) (l : List Int) (raw : List Rw) (pick which : Int), ds = [.int .i64 s, intsD l, rawsD raw, .int .i64 pick, .int .i64 which] ∧ inR .i64 s ∧ okInts l ∧ okRaws raw ∧ inR .i64 pick ∧ inR .i64 which, F := fun _ => .bool true }
section
variable {T : Tb}
attribute [local simp] k_seq k_block k_skip k_reg k_alt k_cond k_exit k_ret kf_nil kf_seq_n kf_seq_e kf_seq_r kf_blk_n kf_blk_e kf_blk_r kf_lp_n kf_lp_e kf_lp_r kf_cut_n kf_cut_e kf_cut_r mkTm VCops VCalt istep act gd applyE wrapD Opd.ev get_mk set_mk set_mk0 tget16 tset16 tget_0 tset_0 tget_1 tset_1 tget_2 tset_2 tget_3 tset_3 tget_4 tset_4 tget_5 tset_5 tget_6 tset_6 tget_7 tset_7 tget_8 tset_8 tget_9 tset_9 tget_10 tset_10 tget_11 tset_11 tget_12 tset_12 tget_13 tset_13 tget_14 tset_14 tget_15 tset_15 D.un D.gu gus IOp.opds binD fnPost getRes IRes.get oneRes D.out outL D.clos closL D.norow norowL D.lv lvL D.scal scalL D.cells D.cell D.cell' St.lk obPut obDel List.lookup cut pickD splice fillParts fillRows elem_cons newsOf D.pl D.forget forgetL Ob.forget forgetO eqCells sg leD leDL leOb apartK St.le D.keys keysL D.rows rowsL obKeys addKeys reach pos D.ren renL Ob.ren inM outM inObs outObs goneK apartN okNames_eq okNms obNms namesOK_nil namesOK_cons freeOK_nil freeOK_cons D.frz frzL Ob.frz frzO St.frz forgetLs dropObs putObs hcall freeOf keeps baseN shD isShift shMax k_bad VCopsG frz_nil actx actc cnum vwCut St.frzT St.opnT St.clsT D.opn opnL Ob.opn opnO VCou VCcx St.oneS D.objI D.objK scrL D.scr St.opnS St.clsS D.cellS D.fzs fzsL k_mrk IOper.gh
set_option maxRecDepth 100000 in
set_option maxHeartbeats 16000000 in
theorem v_TakeOne (h1 : T.sp n_reredoskeep_Config = some sp_Config) (h2 : T.sp n_reredoskeep_messages = some sp_messages) (h3 : T.sp n_net_Empty = some sp_NEmpty) (h4 : T.sp n_net_Send = some sp_NSend) (h5 : T.sp n_reredoskeep_count = some sp_count) (h6 : T.sp n_net_Take = some sp_NTake) (h7 : T.sp n_reredoskeep_picked = some sp_picked) : Verified T ir_reredoskeep_TakeOne sp_TakeOne := by
  refine Verified.mk ?_
  rintro ds ⟨s, l, raw, pick, which, rfl, hs, hl, hraw, hpk, hwh⟩
  have hF : sp_TakeOne.F [.int .i64 s, intsD l, rawsD raw, .int .i64 pick, .int .i64 which] = .bool true := rfl
  rw [hF]
  have x1 : sp_Config.hx = none := rfl
  have x2 : sp_messages.hx = none := rfl
  have x3 : sp_NEmpty.hx = none := rfl
  have x4 : sp_NSend.hx = none := rfl
  have x5 : sp_count.hx = none := rfl
  have x6 : sp_NTake.hx = none := rfl
  have x7 : sp_picked.hx = none := rfl
  have bS := pk_bounds s 3 (by decide)
  have f1 := conf_F s 1 l
  have p1 := conf_pre hs hl (p := 1) (by simp [inR])
  have hP : 1 + pk 1 4 = 2 := by decide
  rw [hP] at f1
  have hc : check (1 + pk s 3) (cfgLs l) 2 = 0 := check_config (pk s 3) 1 l bS (by decide)
  have hsl := okSL_config (pk s 3) 2 l bS
  have hlen := (cfgLs_good l).2.2
  have hS : 1 ≤ 1 + pk s 3 ∧ 1 + pk s 3 ≤ 4 := by omega
  generalize 1 + pk s 3 = S at f1 hc hsl hS
  generalize cfgLs l = ls at f1 hc hsl hlen
  have f2 := messages_F S 2 ls raw 20
  have p2 := messages_pre hsl hraw (m := 20) (by omega)
  have hms : ∀ m ∈ (raw.take 20).map (mkMsg S ls.length), chkM S ls 2 m = 0 := by
    intro m hm
    obtain ⟨r, _, rfl⟩ := List.mem_map.1 hm
    exact mkMsg_ok S 2 ls r hc (by omega) (by omega)
  have hml : ((raw.take 20).map (mkMsg S ls.length)).length ≤ 20 := by simp; omega
  generalize (raw.take 20).map (mkMsg S ls.length) = ms at f2 hms hml
  have f3 := empty_F S 2 ls
  have p3 := empty_pre hc hS
  have h0 : okFly S ls 2 (List.replicate (S * S).toNat []) := okFly.empty hc hS
  have f4 := NSend_F S 2 ls (List.replicate (S * S).toNat []) ms
  have p4 := NSend_pre h0 hms (by omega)
  obtain ⟨hfly, hrows, hcnt, hway⟩ := sent_of hc hS hms (by omega)
  generalize List.replicate (S * S).toNat ([] : List Ms) = E0 at f3 f4 p4 hfly hrows hcnt hway
  generalize sendF S E0 ms = G at f4 hfly hrows hcnt hway
  have hGl := hfly.len
  have hG16 := hfly.le
  have hin : inR .i64 (S * S) := by simp only [inR]; omega
  have bA := pk_bounds pick 50 (by decide)
  have bB := pk_bounds which 3 (by decide)
  have q7 : ∀ a b, sp_picked.F [.int .i64 a, .int .i64 b] = .int .i64 (pk a b) := fun _ _ => rfl
  have p7 : ∀ a b, inR .i64 a → 0 < b → sp_picked.pre [.int .i64 a, .int .i64 b] = True := by
    intro a b ha hb
    simp only [sp_picked, eq_iff_iff, iff_true]; exact ⟨a, b, rfl, ha, hb⟩
  have p7a := p7 pick 50 hpk (by decide)
  have p7b := p7 which 3 hwh (by decide)
  rw [show ((20 : Nat) : Int) = 20 from rfl] at f2 p2
  by_cases hm0 : ms.length = 0
  · have hms0 : ms = [] := List.eq_nil_of_length_eq_zero hm0
    subst hms0
    have f6 := NTake_F S 2 ls G 0 0 0 3
    have p6 := NTake_pre hfly (a := 0) (b := 0) (by omega) (by omega) (p := 0) (by omega) (k := 3) (by omega)
    have htk : takeF S G 0 0 0 3 = ([], ms0, 6) := by
      have hz : 0 < G.length := by
        have : (1 : Int) * 1 ≤ S * S := Int.mul_le_mul hS.1 hS.1 (by omega) (by omega)
        omega
      have e : ((0 : Int) * S + 0).toNat = 0 := by simp
      have hg0 := hrows 0 hz
      simp only [List.filter_nil] at hg0
      simp only [takeF, e, hg0, List.length_nil, if_true]
    rw [htk] at f6
    simp only [cfgD, rawsD, takeD, msgD, msgC, ms0, List.map_nil] at f1 f2 p2 f3 p3 f4 p4 f6 p6
    simp (implicitDefEqProofs := false) (maxSteps := 10000000) [ir_reredoskeep_TakeOne, intsD, rawsD, h1, x1, f1, p1, h2, x2, f2, p2, h3, x3, f3, p3, h4, x4, f4, p4, h6, x6, f6, p6, hGl, hin]
  · have hml0 : 0 < ms.length := by omega
    have hml0' : (0 : Int) < ms.length := by omega
    have hmn : ¬ (ms.length : Int) = 0 := by omega
    have hmn' : ¬ ms = [] := fun h => hm0 (by rw [h]; rfl)
    have hel0 := elem_map msgC ms 0 hml0
    have hmem := List.getElem_mem hml0
    obtain ⟨w1, w2⟩ := hway ms[0] hmem
    obtain ⟨_, _, _, ⟨r1, r2, r3, r4, _⟩, _⟩ := chkM_zero (hms ms[0] hmem)
    have hr := hrows _ w1
    have hgd : G.getD (wayI S ms[0]) [] = G[wayI S ms[0]] := by simp [List.getD, w1]
    have hq0 : 0 < (ms.filter fun m => wayI S m == wayI S ms[0]).length := List.length_pos_of_mem (List.mem_filter.2 ⟨hmem, by simp⟩)
    have hq20 : (ms.filter fun m => wayI S m == wayI S ms[0]).length ≤ 20 := Nat.le_trans (List.length_filter_le _ _) hml
    have hi : (ms[0].frm * S + ms[0].to).toNat = wayI S ms[0] := rfl
    have htk : ∀ p k, takeF S G ms[0].frm ms[0].to p k = takeF S G ms[0].frm ms[0].to p k := fun _ _ => rfl
    have f6 := NTake_F S 2 ls G ms[0].frm ms[0].to (pk pick 50) (2 + pk which 3)
    have p6 := NTake_pre hfly ⟨r1, r2⟩ ⟨r3, r4⟩ (p := pk pick 50) (by omega) (k := 2 + pk which 3) (by omega)
    have htk : takeF S G ms[0].frm ms[0].to (pk pick 50) (2 + pk which 3) =
        if 2 + pk which 3 = 4 then (G.set (wayI S ms[0]) ((ms.filter fun m => wayI S m == wayI S ms[0]) ++ [(ms.filter fun m => wayI S m == wayI S ms[0]).getD ((pk pick 50).tmod (ms.filter fun m => wayI S m == wayI S ms[0]).length).toNat ms0]), (ms.filter fun m => wayI S m == wayI S ms[0]).getD ((pk pick 50).tmod (ms.filter fun m => wayI S m == wayI S ms[0]).length).toNat ms0, (0 : Int))
        else (G.set (wayI S ms[0]) (delE (ms.filter fun m => wayI S m == wayI S ms[0]) ((pk pick 50).tmod (ms.filter fun m => wayI S m == wayI S ms[0]).length).toNat), (ms.filter fun m => wayI S m == wayI S ms[0]).getD ((pk pick 50).tmod (ms.filter fun m => wayI S m == wayI S ms[0]).length).toNat ms0, (0 : Int)) := by
      simp only [takeF, hi, hr]
      rw [if_neg (by omega), if_neg (by omega)]
    rw [htk] at f6
    clear htk
    have bw : inR .i64 (ms[0].frm * S) ∧ inR .i64 (ms[0].frm * S + ms[0].to) := by simp only [inR]; omega
    rw [hgd] at hr
    generalize (ms.filter fun m => wayI S m == wayI S ms[0]) = q at hr hq0 hq20 f6
    generalize wayI S ms[0] = i at *
    generalize ms[0] = m at *
    have helG := elem_map flyF G i w1
    rw [hr] at helG
    have hp2 := Int.tmod_nonneg (q.length : Int) bA.1
    have hp3 := Int.tmod_lt_of_pos (pk pick 50) (show (0 : Int) < q.length by omega)
    obtain ⟨j, hj⟩ : ∃ j : Nat, (pk pick 50).tmod q.length = j := ⟨((pk pick 50).tmod q.length).toNat, by omega⟩
    rw [hj] at hp2 hp3 f6
    have hjl : j < q.length := by omega
    simp only [Int.toNat_natCast] at f6
    have hqd : q.getD j ms0 = q[j] := by simp [List.getD, hjl]
    rw [hqd] at f6
    have hel2 := elem_map msgC q j hjl
    generalize q[j] = x at f6 hel2
    have hi16 : (i : Int) < G.length := by omega
    have hiS : (i : Int) < S * S := by omega
    have hqn : ¬ (q.length : Int) = 0 := by omega
    have hqn' : (q.length : Int) ≠ 0 := hqn
    have hmw : m.frm * S + m.to = (i : Int) := w2.symm
    obtain ⟨m1, m2, m3, m4, m5, m6, m7, m8, m9, m10, m11, m12⟩ := m
    obtain ⟨y1, y2, y3, y4, y5, y6, y7, y8, y9, y10, y11, y12⟩ := x
    have hii : inR .i64 (i : Int) := by simp only [inR]; omega
    have hkk : inR .i64 (2 + pk which 3) := by simp only [inR]; omega
    have h44 : inR .i64 4 := by simp [inR]
    have hmm : inR .i64 ((ms.length : Int) + 1) ∧ inR .i64 ((ms.length : Int) - 1) := by simp only [inR]; omega
    have hqnil : ¬ q = [] := fun h => by rw [h] at hq0; simp at hq0
    by_cases hk4 : 2 + pk which 3 = 4
    · rw [if_pos hk4] at f6
      rw [hk4] at f6 p6
      have hcs := cnt_set (q := q ++ [⟨y1, y2, y3, y4, y5, y6, y7, y8, y9, y10, y11, y12⟩]) w1
      rw [hr, hcnt] at hcs
      simp only [List.length_append, List.length_cons, List.length_nil] at hcs
      have helA := elem_map flyF (G.set i (q ++ [⟨y1, y2, y3, y4, y5, y6, y7, y8, y9, y10, y11, y12⟩])) i (by simpa using w1)
      rw [List.getElem_set_self] at helA
      have helB := elem_map msgC (q ++ [⟨y1, y2, y3, y4, y5, y6, y7, y8, y9, y10, y11, y12⟩]) q.length (by simp)
      rw [List.getElem_append_right (Nat.le_refl _)] at helB
      simp only [Nat.sub_self, List.getElem_cons_zero] at helB
      have hAl : (G.set i (q ++ [⟨y1, y2, y3, y4, y5, y6, y7, y8, y9, y10, y11, y12⟩])).length = G.length := by simp
      have hq2 : (q ++ [(⟨y1, y2, y3, y4, y5, y6, y7, y8, y9, y10, y11, y12⟩ : Ms)]).length = q.length + 1 := by simp
      have f5 := count_F (G.set i (q ++ [⟨y1, y2, y3, y4, y5, y6, y7, y8, y9, y10, y11, y12⟩]))
      have p5 := count_pre (fs := G.set i (q ++ [⟨y1, y2, y3, y4, y5, y6, y7, y8, y9, y10, y11, y12⟩])) (by rw [hAl]; omega) (by
        intro z hz
        rcases List.mem_or_eq_of_mem_set hz with h' | h'
        · obtain ⟨n, hn, rfl⟩ := List.getElem_of_mem h'
          have := (hfly.q n hn).1
          omega
        · rw [h', hq2]; omega)
      have hci : ((cnt (G.set i (q ++ [⟨y1, y2, y3, y4, y5, y6, y7, y8, y9, y10, y11, y12⟩])) : Nat) : Int) = (ms.length : Nat) + 1 := by omega
      rw [hci] at f5
      generalize G.set i (q ++ [⟨y1, y2, y3, y4, y5, y6, y7, y8, y9, y10, y11, y12⟩]) = A at *
      generalize q ++ [(⟨y1, y2, y3, y4, y5, y6, y7, y8, y9, y10, y11, y12⟩ : Ms)] = q' at *
      have hA1 : (i : Int) < A.length := by omega
      have hA2 : i < A.length := by omega
      have hq3 : (q.length : Int) < q'.length := by omega
      have hq4 : q.length < q'.length := by omega
      simp only [cfgD, rawsD, takeD, msgD, msgC, flyF] at f1 f2 p2 f3 p3 f4 p4 f5 p5 f6 p6 hel0 hel2 helA helB helG bw hmw
      simp (implicitDefEqProofs := false) (maxSteps := 10000000) [ir_reredoskeep_TakeOne, intsD, rawsD, h1, x1, f1, p1, h2, x2, f2, p2, h3, x3, f3, p3, h4, x4, f4, p4, h5, x5, f5, p5, h6, x6, f6, p6, h7, x7, q7, p7a, p7b, hGl, hin, hml0, hml0', hmn, hmn', hel0, bw.1, hmw, helG, hi16, hiS, w1, hj, hel2, hp3, hjl, hqn, hqnil, hk4, helA, helB, hA1, hA2, hq3, hq4, hii, h44, hmm.1]
    · rw [if_neg hk4] at f6
      have hcs := cnt_set (q := delE q j) w1
      have hdl := delE_length hjl
      rw [hr, hcnt] at hcs
      have hAl : (G.set i (delE q j)).length = G.length := by simp
      have f5 := count_F (G.set i (delE q j))
      have p5 := count_pre (fs := G.set i (delE q j)) (by rw [hAl]; omega) (by
        intro z hz
        rcases List.mem_or_eq_of_mem_set hz with h' | h'
        · obtain ⟨n, hn, rfl⟩ := List.getElem_of_mem h'
          have := (hfly.q n hn).1
          omega
        · rw [h']; omega)
      have hci : ((cnt (G.set i (delE q j)) : Nat) : Int) = (ms.length : Nat) - 1 := by omega
      rw [hci] at f5
      generalize G.set i (delE q j) = A at *
      obtain ⟨kk, hke⟩ : ∃ kk, 2 + pk which 3 = kk := ⟨_, rfl⟩
      rw [hke] at f6 p6 hkk hk4
      simp only [cfgD, rawsD, takeD, msgD, msgC, flyF] at f1 f2 p2 f3 p3 f4 p4 f5 p5 f6 p6 hel0 hel2 helG bw hmw
      simp (implicitDefEqProofs := false) (maxSteps := 10000000) [ir_reredoskeep_TakeOne, intsD, rawsD, h1, x1, f1, p1, h2, x2, f2, p2, h3, x3, f3, p3, h4, x4, f4, p4, h5, x5, f5, p5, h6, x6, f6, p6, h7, x7, q7, p7a, p7b, hGl, hin, hml0, hml0', hmn, hmn', hel0, bw.1, hmw, helG, hi16, hiS, w1, hj, hel2, hp3, hjl, hqn, hqnil, hk4, hii, hkk, hke, hmm.2]
end
end Go.Proofs.YtopdccbcknlepaaDoor
