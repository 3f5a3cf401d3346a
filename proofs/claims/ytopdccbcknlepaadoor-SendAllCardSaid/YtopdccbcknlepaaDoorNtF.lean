/-
  SendAll, SendFull and TakeOne answer true on data. Conditions: those of each specification's 'pre', and that the functions that are called are what theirs say.
-/
import Derived.Test.YtopdccbcknlepaaDoorNtE
set_option linter.unusedVariables false
set_option linter.unusedSimpArgs false
namespace Go.Proofs.YtopdccbcknlepaaDoor
open Go Go.Vcg

theorem conf_F (s p : Int) (ns : List Int) : sp_Config.F [.int .i64 s, .fz 1 (ns.map ic), .int .i64 p] = cfgD (1 + pk s 3) (cfgLs ns) (1 + pk p 4) := by
  have e : D.fz 1 (ns.map ic) = intsD ns := rfl
  rw [e]
  simp only [sp_Config, intsOf_intsD]
theorem conf_pre {s p : Int} {ns : List Int} (hs : inR .i64 s) (hn : okInts ns) (hp : inR .i64 p) : sp_Config.pre [.int .i64 s, .fz 1 (ns.map ic), .int .i64 p] = True := by
  simp only [sp_Config, eq_iff_iff, iff_true]; exact ⟨s, ns, p, rfl, hs, hn, hp⟩
theorem empty_F (S P : Int) (ls : List (Int × Int)) : sp_NEmpty.F [cfgD S ls P] = .tup [.fz 1 ((List.replicate (S * S).toNat ([] : List Ms)).map flyF), .int .i64 0] := by
  simp only [sp_NEmpty, cfgOf_cfgD, List.map_replicate]
theorem empty_pre {S P : Int} {ls : List (Int × Int)} (hc : check S ls P = 0) (hS : 1 ≤ S ∧ S ≤ 4) : sp_NEmpty.pre [cfgD S ls P] = True := by
  simp only [sp_NEmpty, eq_iff_iff, iff_true]; exact ⟨S, ls, P, rfl, hc, hS⟩
/-- Messages that are made, sent where nothing was on its way. -/
structure Sent (S : Int) (ls : List (Int × Int)) (P : Int) (ms : List Ms) (G : List (List Ms)) : Prop where
  fly : okFly S ls P G
  rows : ∀ i, i < G.length → G.getD i [] = ms.filter fun m => wayI S m == i
  cnt : cnt G = ms.length
  way : ∀ m ∈ ms, wayI S m < G.length ∧ ((wayI S m : Nat) : Int) = m.frm * S + m.to
theorem sent_of {S P : Int} {ls : List (Int × Int)} {ms : List Ms} (hc : check S ls P = 0) (hS : 1 ≤ S ∧ S ≤ 4) (hm : ∀ m ∈ ms, chkM S ls P m = 0) (hl : ms.length ≤ 30) : Sent S ls P ms (sendF S (List.replicate (S * S).toNat []) ms) := by
  have h0 : okFly S ls P (List.replicate (S * S).toNat []) := okFly.empty hc hS
  have hm0 : 0 ≤ S * S := Int.mul_nonneg (by omega) (by omega)
  have hw : ∀ m ∈ ms, wayI S m < (List.replicate (S * S).toNat ([] : List Ms)).length := by
    intro m hx
    obtain ⟨w1, w2, _, _⟩ := wayI_eq hS (hm m hx)
    simp; omega
  obtain ⟨r1, r2⟩ := sendF_rows S ms (List.replicate (S * S).toNat []) (by
    intro q hq
    rw [List.mem_replicate] at hq
    rw [hq.2]; simpa using hl) hw
  refine ⟨h0.send hm, fun i hi => ?_, by rw [r2, cnt_replicate]; simp, fun m hx => ⟨by rw [sendF_length]; exact hw m hx, (wayI_eq hS (hm m hx)).1⟩⟩
  rw [sendF_length] at hi
  rw [r1 i hi]
  have : (List.replicate (S * S).toNat ([] : List Ms)).getD i [] = [] := by
    simp only [List.length_replicate] at hi
    simp [List.getD, hi]
  rw [this, List.nil_append]
theorem filter_at {α : Type} (p : α → Bool) {l : List α} {j : Nat} (h : j < l.length) (hp : p l[j] = true) : ∃ (hk : ((l.take j).filter p).length < (l.filter p).length), (l.filter p)[((l.take j).filter p).length] = l[j] := by
  have e : l = l.take j ++ l[j] :: l.drop (j + 1) := by
    rw [List.getElem_cons_drop, List.take_append_drop]
  have e2 : l.filter p = (l.take j).filter p ++ l[j] :: (l.drop (j + 1)).filter p := by
    conv => lhs; rw [e]
    rw [List.filter_append, List.filter_cons, if_pos hp]
  refine ⟨by rw [e2]; simp, ?_⟩
  simp only [e2]
  simp
def sp_SendAll : Sp := { pre := fun ds => ∃ (s : Int) (l : List Int) (raw : List Rw), ds = [.int .i64 s, intsD l, rawsD raw] ∧ inR .i64 s ∧ okInts l ∧ okRaws raw, F := fun _ => .bool true }
section
variable {T : Tb}
attribute [local simp] k_seq k_block k_skip k_reg k_alt k_cond k_exit k_ret kf_nil kf_seq_n kf_seq_e kf_seq_r kf_blk_n kf_blk_e kf_blk_r kf_lp_n kf_lp_e kf_lp_r kf_cut_n kf_cut_e kf_cut_r mkTm VCops VCalt istep act gd applyE wrapD Opd.ev get_mk set_mk set_mk0 tget16 tset16 tget_0 tset_0 tget_1 tset_1 tget_2 tset_2 tget_3 tset_3 tget_4 tset_4 tget_5 tset_5 tget_6 tset_6 tget_7 tset_7 tget_8 tset_8 tget_9 tset_9 tget_10 tset_10 tget_11 tset_11 tget_12 tset_12 tget_13 tset_13 tget_14 tset_14 tget_15 tset_15 D.un D.gu gus IOp.opds binD fnPost getRes IRes.get oneRes D.out outL D.clos closL D.norow norowL D.lv lvL D.scal scalL D.cells D.cell D.cell' St.lk obPut obDel List.lookup cut pickD splice fillParts fillRows elem_cons newsOf D.pl D.forget forgetL Ob.forget forgetO eqCells sg leD leDL leOb apartK St.le D.keys keysL D.rows rowsL obKeys addKeys reach pos D.ren renL Ob.ren inM outM inObs outObs goneK apartN okNames_eq okNms obNms namesOK_nil namesOK_cons freeOK_nil freeOK_cons D.frz frzL Ob.frz frzO St.frz forgetLs dropObs putObs hcall freeOf keeps baseN shD isShift shMax k_bad VCopsG frz_nil actx actc cnum vwCut St.frzT St.opnT St.clsT D.opn opnL Ob.opn opnO VCou VCcx St.oneS D.objI D.objK scrL D.scr St.opnS St.clsS D.cellS D.fzs fzsL k_mrk IOper.gh
set_option maxRecDepth 100000 in
set_option maxHeartbeats 16000000 in
theorem v_SendAll (h1 : T.sp n_reredoskeep_Config = some sp_Config) (h2 : T.sp n_reredoskeep_messages = some sp_messages) (h3 : T.sp n_net_Empty = some sp_NEmpty) (h4 : T.sp n_net_Send = some sp_NSend) (h5 : T.sp n_reredoskeep_count = some sp_count) (h6 : T.sp n_net_Check = some sp_NCheck) : Verified T ir_reredoskeep_SendAll sp_SendAll := by
  refine Verified.mk ?_
  rintro ds ⟨s, l, raw, rfl, hs, hl, hraw⟩
  have hF : sp_SendAll.F [.int .i64 s, intsD l, rawsD raw] = .bool true := rfl
  rw [hF]
  have x1 : sp_Config.hx = none := rfl
  have x2 : sp_messages.hx = none := rfl
  have x3 : sp_NEmpty.hx = none := rfl
  have x4 : sp_NSend.hx = none := rfl
  have x5 : sp_count.hx = none := rfl
  have x6 : sp_NCheck.hx = none := rfl
  have bS := pk_bounds s 3 (by decide)
  have f1 := conf_F s 1 l
  have p1 := conf_pre hs hl (p := 1) (by simp [inR])
  have hP : 1 + pk 1 4 = 2 := by decide
  rw [hP] at f1
  have hc : check (1 + pk s 3) (cfgLs l) 2 = 0 := check_config (pk s 3) 1 l bS (by decide)
  have hsl := okSL_config (pk s 3) 2 l bS
  have hlen := (cfgLs_good l).2.2
  have hS : 1 ≤ 1 + pk s 3 ∧ 1 + pk s 3 ≤ 4 := by omega
  generalize 1 + pk s 3 = S at f1 hc hsl hS
  generalize cfgLs l = ls at f1 hc hsl hlen
  have f2 := messages_F S 2 ls raw 25
  have p2 := messages_pre hsl hraw (m := 25) (by omega)
  have hms : ∀ m ∈ (raw.take 25).map (mkMsg S ls.length), chkM S ls 2 m = 0 := by
    intro m hm
    obtain ⟨r, _, rfl⟩ := List.mem_map.1 hm
    exact mkMsg_ok S 2 ls r hc (by omega) (by omega)
  have hml : ((raw.take 25).map (mkMsg S ls.length)).length ≤ 25 := by simp; omega
  generalize (raw.take 25).map (mkMsg S ls.length) = ms at f2 hms hml
  have f3 := empty_F S 2 ls
  have p3 := empty_pre hc hS
  have h0 : okFly S ls 2 (List.replicate (S * S).toNat []) := okFly.empty hc hS
  have f4 := NSend_F S 2 ls (List.replicate (S * S).toNat []) ms
  have p4 := NSend_pre h0 hms (by omega)
  obtain ⟨hfly, hrows, hcnt, hway⟩ := sent_of hc hS hms (by omega)
  generalize List.replicate (S * S).toNat ([] : List Ms) = E0 at f3 f4 p4 hfly hrows hcnt hway
  generalize sendF S E0 ms = G at f4 hfly hrows hcnt hway
  have hGl := hfly.len
  have hG16 := hfly.le
  have f5 := count_F G
  have p5 := count_pre (fs := G) (by omega) (by
    intro q hq
    obtain ⟨i, hi, rfl⟩ := List.getElem_of_mem hq
    have := (hfly.q i hi).1
    omega)
  have f6 := NCheck_F
  have p6 := NCheck_pre hfly
  rw [hcnt] at f5
  rw [show ((25 : Nat) : Int) = 25 from rfl] at f2 p2
  simp only [cfgD, rawsD] at f1 f2 p2 f3 p3 f4 p4 p6
  have hin : inR .i64 (S * S) := by simp only [inR]; omega
  have hMle : inR .i64 (ms.length : Int) := by simp only [inR]; omega
  simp (implicitDefEqProofs := false) (maxSteps := 10000000) [ir_reredoskeep_SendAll, intsD, rawsD, h1, x1, f1, p1, h2, x2, f2, p2, h3, x3, f3, p3, h4, x4, f4, p4, h5, x5, f5, p5, h6, x6, f6, p6, hGl, hin]
  refine k_loop (ι := {i : Nat // i ≤ G.length}) (fun x => ⟨mkTm 97 0 [(7, .own 7 0), (8, .fz 12 (ms.map msgC)), (64, .fz 1 (G.map flyF)), (65, .int .i64 (S * S)), (66, .int .i64 x.1)], [(7, .box [.int .i64 S, .fz 2 (ls.map lbc), .int .i64 2])]⟩)
    (fun x => G.length - x.1) [] ⟨0, by omega⟩ (by simp (implicitDefEqProofs := false)) ?_
  rintro ⟨i, hi⟩ P' hP'
  rcases Nat.lt_or_ge i G.length with h | h
  · have hi1 : (i : Int) < S * S := by omega
    have hi2 : (i : Int) < G.length := by omega
    have hel := elem_map flyF G i h
    have hr := hrows i h
    have hgd : G.getD i [] = G[i] := by simp [List.getD, h]
    rw [hgd] at hr
    rw [hr] at hel
    simp only [flyF] at hel
    simp (implicitDefEqProofs := false) [ir_reredoskeep_SendAll_b2, hi1, hi2, h, hel]
    refine k_loop (ι := {j : Nat // j ≤ ms.length}) (fun x => ⟨mkTm 97 0 [(7, .own 7 0), (8, .fz 12 (ms.map msgC)), (12, .int .i64 i), (13, .fz 12 ((ms.filter fun m => wayI S m == i).map msgC)), (14, .int .i64 ((((ms.take x.1).filter fun m => wayI S m == i).length : Nat) : Int)), (64, .fz 1 (G.map flyF)), (65, .int .i64 (S * S)), (66, .int .i64 i), (71, .fz 12 (ms.map msgC)), (72, .int .i64 ms.length), (73, .int .i64 x.1)], [(7, .box [.int .i64 S, .fz 2 (ls.map lbc), .int .i64 2])]⟩)
      (fun x => ms.length - x.1) [] ⟨0, by omega⟩ (by simp (implicitDefEqProofs := false)) ?_
    rintro ⟨j, hj⟩ P2 hP2
    rcases Nat.lt_or_ge j ms.length with h' | h'
    · have hj1 : (j : Int) < ms.length := by omega
      have hel2 := elem_map msgC ms j h'
      obtain ⟨w1, w2⟩ := hway ms[j] (List.getElem_mem h')
      have ht : ms.take (j + 1) = ms.take j ++ [ms[j]] := (List.take_append_getElem h').symm
      have hbw : inR .i64 (ms[j].frm * S) ∧ inR .i64 (ms[j].frm * S + ms[j].to) := by
        obtain ⟨_, _, _, ⟨r1, r2, r3, r4, _⟩, _⟩ := chkM_zero (hms ms[j] (List.getElem_mem h'))
        simp only [inR]; omega
      have hkl : ((ms.take j).filter fun m => wayI S m == i).length ≤ 25 := Nat.le_trans (List.length_filter_le _ _) (by rw [List.length_take]; omega)
      by_cases hwi : wayI S ms[j] = i
      · obtain ⟨hk, hke⟩ := filter_at (fun m => wayI S m == i) h' (by simpa using hwi)
        have hinv : ((((ms.take (j + 1)).filter fun m => wayI S m == i).length : Nat) : Int) = (((ms.take j).filter fun m => wayI S m == i).length : Nat) + 1 := by
          rw [ht, List.filter_append, List.length_append]
          simp [List.filter_cons, hwi]
        have hel3 := elem_map msgC (ms.filter fun m => wayI S m == i) _ hk
        rw [hke] at hel3
        have hki : ((((ms.take j).filter fun m => wayI S m == i).length : Nat) : Int) < ((ms.filter fun m => wayI S m == i).length : Nat) := by omega
        have hw3 : ms[j].frm * S + ms[j].to = (i : Int) := by rw [← w2, hwi]
        generalize ((ms.take j).filter fun m => wayI S m == i).length = k at *
        generalize hqq : (ms.filter fun m => wayI S m == i) = q at *
        generalize ms[j] = m at hel2 hel3 hbw hw3
        obtain ⟨m1, m2, m3, m4, m5, m6, m7, m8, m9, m10, m11, m12⟩ := m
        simp only [msgC] at hel2 hel3 hbw hw3
        simp (implicitDefEqProofs := false) [ir_reredoskeep_SendAll_b0, hj1, h', hel2, hel3, hbw.1, hbw.2, hw3, hk, hki]
        refine ⟨by rw [← hw3]; exact hbw.2, by simp only [inR]; omega, by simp only [inR]; omega, hP2 _ [] ⟨j + 1, by omega⟩ ?_ (by simp only; omega)⟩
        simp only [hinv]
        simp (implicitDefEqProofs := false)
      · have hinv : ((ms.take (j + 1)).filter fun m => wayI S m == i).length = ((ms.take j).filter fun m => wayI S m == i).length := by
          rw [ht, List.filter_append, List.length_append]
          simp [List.filter_cons, hwi]
        have hw3 : ¬ ms[j].frm * S + ms[j].to = (i : Int) := by rw [← w2]; omega
        generalize ((ms.take j).filter fun m => wayI S m == i).length = k at *
        generalize hqq : (ms.filter fun m => wayI S m == i) = q at *
        generalize ms[j] = m at hel2 hbw hw3
        obtain ⟨m1, m2, m3, m4, m5, m6, m7, m8, m9, m10, m11, m12⟩ := m
        simp only [msgC] at hel2 hbw hw3
        simp (implicitDefEqProofs := false) [ir_reredoskeep_SendAll_b0, hj1, h', hel2, hbw.1, hbw.2, hw3]
        refine ⟨by simp only [inR]; omega, hP2 _ [] ⟨j + 1, by omega⟩ ?_ (by simp only; omega)⟩
        simp only [hinv]
        simp (implicitDefEqProofs := false)
    · have hj1 : ¬ (j : Int) < ms.length := by omega
      simp (implicitDefEqProofs := false) [ir_reredoskeep_SendAll_b0, ir_reredoskeep_SendAll_r1, hj1]
      exact ⟨by simp only [inR]; omega, hP' _ [] ⟨i + 1, by omega⟩ (by simp (implicitDefEqProofs := false)) (by simp only; omega)⟩
  · have hi1 : ¬ (i : Int) < S * S := by omega
    simp (implicitDefEqProofs := false) [ir_reredoskeep_SendAll_b2, ir_reredoskeep_SendAll_r3, hi1]
end
end Go.Proofs.YtopdccbcknlepaaDoor
