/-
  Desks of raw numbers: they are what their specification says. Conditions: those of each specification's 'pre', and that the functions that are called are what theirs say.
-/
import Derived.Test.YtchbnpjegacobaaDoorDkA
import Derived.Test.YtchbnpjegacobaaDoorDkK
set_option linter.unusedVariables false
set_option linter.unusedSimpArgs false
namespace Go.Proofs.YtchbnpjegacobaaDoor
open Go Go.Vcg

section
variable {T : Tb}
attribute [local simp] k_seq k_block k_skip k_reg k_alt k_cond k_exit k_ret kf_nil kf_seq_n kf_seq_e kf_seq_r kf_blk_n kf_blk_e kf_blk_r kf_lp_n kf_lp_e kf_lp_r kf_cut_n kf_cut_e kf_cut_r mkTm VCops VCalt istep act gd applyE wrapD Opd.ev get_mk set_mk set_mk0 tget16 tset16 tget_0 tset_0 tget_1 tset_1 tget_2 tset_2 tget_3 tset_3 tget_4 tset_4 tget_5 tset_5 tget_6 tset_6 tget_7 tset_7 tget_8 tset_8 tget_9 tset_9 tget_10 tset_10 tget_11 tset_11 tget_12 tset_12 tget_13 tset_13 tget_14 tset_14 tget_15 tset_15 D.un D.gu gus IOp.opds binD fnPost getRes IRes.get oneRes D.out outL D.clos closL D.norow norowL D.lv lvL D.scal scalL D.cells D.cell D.cell' St.lk obPut obDel List.lookup cut pickD splice fillParts fillRows elem_cons newsOf D.pl D.forget forgetL Ob.forget forgetO eqCells sg leD leDL leOb apartK St.le D.keys keysL D.rows rowsL obKeys addKeys reach pos D.ren renL Ob.ren inM outM inObs outObs goneK apartN okNames_eq okNms obNms namesOK_nil namesOK_cons freeOK_nil freeOK_cons D.frz frzL Ob.frz frzO St.frz forgetLs dropObs putObs hcall freeOf keeps baseN shD isShift shMax k_bad VCopsG frz_nil actx actc cnum vwCut St.frzT St.opnT St.clsT D.opn opnL Ob.opn opnO VCou VCcx St.oneS D.objI D.objK scrL D.scr St.opnS St.clsS D.cellS D.fzs fzsL k_mrk k_mrq IOper.gh
set_option maxRecDepth 100000 in
set_option maxHeartbeats 16000000 in
theorem v_Desk (h1 : T.sp n_reredoskeep_picked = some sp_picked) (h2 : T.sp n_reredoskeep_ask = some sp_askR) (h3 : T.sp n_coord_Call = some sp_Call) (h4 : T.sp n_reredoskeep_back = some sp_back) (h5 : T.sp n_reredoskeep_Message = some sp_Message) (h6 : T.sp n_coord_Hear = some sp_Hear) : Verified T ir_reredoskeep_Desk sp_Desk := by
  refine Verified.mk ?_
  rintro ds ⟨h, L, most, rfl, hh, ⟨hr, hrl⟩, hk⟩
  rw [desk_F]
  have x1 : sp_picked.hx = none := rfl
  have x2 : sp_askR.hx = none := rfl
  have x3 : sp_Call.hx = none := rfl
  have x4 : sp_back.hx = none := rfl
  have x5 : sp_Message.hx = none := rfl
  have x6 : sp_Hear.hx = none := rfl
  have f1 := picked_F
  obtain ⟨c1, c2, c3, c4, c5, c6⟩ := check_ok hh.1
  have hst : ∀ k (hk : k < L.length), deskT h (L.take (k + 1)) = deskStep h (deskT h (L.take k)) L[k] := by
    intro k hk
    rw [← List.take_append_getElem hk, deskT, List.foldl_append]; rfl
  have hok := fun k => dkO_desk hh (L.take k)
  have h0 : deskT h (L.take 0) = (1, []) := rfl
  have hfin : ∀ k, k ≤ most → ¬ (k < L.length ∧ k < most) → deskT h (L.take k) = deskT h (L.take most) := by
    intro k h1 h2
    by_cases e : k = most
    · rw [e]
    · rw [List.take_of_length_le (by omega), List.take_of_length_le (by omega)]
  generalize hW : (fun k => deskT h (L.take k)) = W at *
  have hW' : ∀ k, deskT h (L.take k) = W k := fun k => by rw [← hW]
  simp only [hW'] at hst hok h0 hfin ⊢
  clear hW hW'
  simp only [cfgD, rawsD, dkD, dkC]
  simp (implicitDefEqProofs := false) (maxSteps := 10000000) [ir_reredoskeep_Desk]
  refine k_loop (ι := {k : Nat // k ≤ L.length ∧ k ≤ most}) (fun x => ⟨mkTm 109 0 [(1, .int .i64 h.l), (2, .int .i64 h.me), (3, .fz 6 (L.map rawC)), (4, .int .i64 most), (5, .own 5 0), (10, .own 10 0), (11, .own 11 0), (12, .int .i64 x.1)], [(5, .box [.int .i64 h.S, .fz 2 (h.ls.map lbc), .int .i64 h.P]), (10, .box [.int .i64 0, .nl 6]), (11, .box [.int .i64 (W x.1).1, .fz 6 ((W x.1).2.map jbC)])]⟩)
    (fun x => L.length - x.1) [] ⟨0, by omega⟩ (by simp (implicitDefEqProofs := false) (maxSteps := 10000000) [h0]) ?_
  rintro ⟨k, hk1, hk2⟩ P hP
  simp only at hP ⊢
  by_cases hlt : k < L.length ∧ k < most
  · obtain ⟨hl1, hl2⟩ := hlt
    have i1 : (k : Int) < L.length := by omega
    have i2 : (k : Int) < most := by omega
    have hel := elem_map rawC L k hl1
    obtain ⟨r1, r2, r3, r4, r5, r6⟩ := hr _ (List.getElem_mem hl1)
    have hw := hst k hl1
    have hd := hok k
    have hgo : ∀ d : Int × List Jb, W (k + 1) = d → ∀ (s : St) (σ : List (Nat × Option Nat)), St.le σ s ⟨mkTm 109 0 [(1, .int .i64 h.l), (2, .int .i64 h.me), (3, .fz 6 (L.map rawC)), (4, .int .i64 most), (5, .own 5 0), (10, .own 10 0), (11, .own 11 0), (12, .int .i64 ((k + 1 : Nat) : Int))], [(5, .box [.int .i64 h.S, .fz 2 (h.ls.map lbc), .int .i64 h.P]), (10, .box [.int .i64 0, .nl 6]), (11, .box [.int .i64 d.1, .fz 6 (d.2.map jbC)])]⟩ → P s := by
      rintro d rfl s σ hs
      exact hP s σ ⟨k + 1, by omega⟩ hs (by simp only; omega)
    clear hP hst hok h0 hfin hr
    generalize W (k + 1) = w at hw hgo
    replace hgo := hgo w rfl
    subst hw
    generalize W k = d at hd hgo ⊢
    generalize W most = dm
    clear W
    have hfew := dkO_few hh hd
    have hrr : okRaw L[k] := ⟨r1, r2, r3, r4, r5, r6⟩
    generalize L[k] = r at hel r1 r2 r3 r4 r5 r6 hgo hrr
    have q1 := picked_pre r1 (by decide : (0 : Int) < 3)
    simp only [deskStep] at hgo
    by_cases hp : 0 < pk r.k 3
    · simp only [if_pos hp] at hgo
      have f2 := askR_F ⟨r.c.tdiv 9, r.a, r.b, r.c, r.d, 0⟩
      have htd : inR .i64 (r.c.tdiv 9) := inR_tdiv' r4 (by decide)
      have p2 := askR_pre (r := ⟨r.c.tdiv 9, r.a, r.b, r.c, r.d, 0⟩) ⟨htd, r2, r3, r4, r5, by simp only [inR]; omega⟩
      generalize askC ⟨r.c.tdiv 9, r.a, r.b, r.c, r.d, 0⟩ = x at f2 hgo
      have f3 := call_F h d.1 d.2 6000 x
      have p3 := call_pre h d.1 (js := d.2) 6000 x hfew.1 hfew.2
      have hms := call_ms hh hd 6000 x
      have hkc := dkO_keepC hh hd 6000 x
      generalize callT h d.1 d.2 6000 x = t at f3 hms hkc hgo
      obtain ⟨⟨t1, t2, t3, t4, ms, t6, t7⟩, e⟩ := t
      simp only [deskC] at hms hkc hgo
      obtain ⟨ra, rb, rc, rd, re, rf⟩ := r
      obtain ⟨dn, dj⟩ := d
      simp only [rawC, clC, dkD, dkC, cfgD, trnC] at hel f2 p2 f3 p3 hgo q1 r4 hp ⊢
      by_cases he : e = 0
      · subst he
        simp only [if_true] at hgo hkc
        simp (implicitDefEqProofs := false) (maxSteps := 10000000) [ir_reredoskeep_Desk_b3, ir_reredoskeep_Desk_r1, ir_reredoskeep_Desk_r2, i1, i2, hl1, hel, h1, x1, f1, q1, hp, r4, h2, x2, f2, p2, h3, x3, f3, p3]
        have hdq : ∀ q, DkO h ((ms.take q).foldl (backS h ⟨ra, rb, rc, rd, re, rf⟩) (t1, t4)) := fun q => dkO_fold hh _ _ (hkc trivial)
        refine k_loop (ι := {q : Nat // q ≤ ms.length}) (fun x => ⟨mkTm 109 0 [(1, .int .i64 h.l), (2, .int .i64 h.me), (3, .fz 6 (L.map rawC)), (4, .int .i64 most), (5, .own 5 0), (10, .own 10 0), (11, .own 11 0), (12, .int .i64 k), (13, .own 13 0), (69, .fz 12 ms), (70, .int .i64 ms.length), (71, .int .i64 x.1)], [(5, .box [.int .i64 h.S, .fz 2 (h.ls.map lbc), .int .i64 h.P]), (10, .box [.int .i64 0, .nl 6]), (11, .box [.int .i64 ((ms.take x.1).foldl (backS h ⟨ra, rb, rc, rd, re, rf⟩) (t1, t4)).1, .fz 6 (((ms.take x.1).foldl (backS h ⟨ra, rb, rc, rd, re, rf⟩) (t1, t4)).2.map jbC)]), (13, .box [.int .i64 ra, .int .i64 rb, .int .i64 rc, .int .i64 rd, .int .i64 re, .int .i64 rf])]⟩)
          (fun x => ms.length - x.1) [] ⟨0, by omega⟩ (by simp (implicitDefEqProofs := false) (maxSteps := 10000000)) ?_
        rintro ⟨q, hq⟩ P' hP'
        simp only at hP' ⊢
        rcases Nat.lt_or_ge q ms.length with g | g
        · have g1 : (q : Int) < ms.length := by omega
          have hqd := hdq q
          have hml := hms.1
          have hnx : (ms.take (q + 1)).foldl (backS h ⟨ra, rb, rc, rd, re, rf⟩) (t1, t4) = backS h ⟨ra, rb, rc, rd, re, rf⟩ ((ms.take q).foldl (backS h ⟨ra, rb, rc, rd, re, rf⟩) (t1, t4)) ms[q] := by
            rw [← List.take_append_getElem g, List.foldl_append]; rfl
          have hP2 : ∀ dd : Int × List Jb, (ms.take (q + 1)).foldl (backS h ⟨ra, rb, rc, rd, re, rf⟩) (t1, t4) = dd → ∀ (s : St) (σ : List (Nat × Option Nat)), St.le σ s ⟨mkTm 109 0 [(1, .int .i64 h.l), (2, .int .i64 h.me), (3, .fz 6 (L.map rawC)), (4, .int .i64 most), (5, .own 5 0), (10, .own 10 0), (11, .own 11 0), (12, .int .i64 k), (13, .own 13 0), (69, .fz 12 ms), (70, .int .i64 ms.length), (71, .int .i64 ((q + 1 : Nat) : Int))], [(5, .box [.int .i64 h.S, .fz 2 (h.ls.map lbc), .int .i64 h.P]), (10, .box [.int .i64 0, .nl 6]), (11, .box [.int .i64 dd.1, .fz 6 (dd.2.map jbC)]), (13, .box [.int .i64 ra, .int .i64 rb, .int .i64 rc, .int .i64 rd, .int .i64 re, .int .i64 rf])]⟩ → P' s := by
            rintro dd rfl s σ hs
            exact hP' s σ ⟨q + 1, by omega⟩ hs (by simp only; omega)
          clear hP'
          have hme := hms.2 _ (List.getElem_mem g)
          have hee : elem ms q = ms[q] := by simp [elem, List.getD, g]
          rw [isMsgL_eq hme] at hee
          generalize (ms.take (q + 1)).foldl (backS h ⟨ra, rb, rc, rd, re, rf⟩) (t1, t4) = d2 at hnx hP2
          replace hP2 := hP2 d2 rfl
          subst hnx
          generalize (ms.take q).foldl (backS h ⟨ra, rb, rc, rd, re, rf⟩) (t1, t4) = d1 at hqd hP2 ⊢
          simp only [backS] at hP2
          generalize msgL ms[q] = m at hee hP2
          have hfew1 := dkO_few hh hqd
          have q6 := picked_pre r6 (by decide : (0 : Int) < 3)
          have f4 := back_F h d1 m ⟨ra, rb, rc, rd, re, rf⟩
          have p4 := back_pre h m hfew1 hrr
          by_cases hpe : 0 < pk rf 3
          · simp only [if_pos hpe] at hP2
            generalize backT h d1 m ⟨ra, rb, rc, rd, re, rf⟩ = d2 at f4 hP2
            obtain ⟨d1n, d1j⟩ := d1
            obtain ⟨m1, m2, m3, m4, m5, m6, m7, m8, m9, m10, m11, m12⟩ := m
            simp only [rawC, msgC, dkD, dkC, cfgD] at hee f4 p4 q6 hP2 ⊢
            simp (implicitDefEqProofs := false) (maxSteps := 10000000) [ir_reredoskeep_Desk_b0, g1, g, hee, h1, x1, f1, q6, hpe, h4, x4, f4, p4]
            exact ⟨by simp only [inR]; omega, hP2 _ [] (by simp (implicitDefEqProofs := false) (maxSteps := 10000000))⟩
          · simp only [if_neg hpe] at hP2
            obtain ⟨d1n, d1j⟩ := d1
            obtain ⟨m1, m2, m3, m4, m5, m6, m7, m8, m9, m10, m11, m12⟩ := m
            simp only [rawC, msgC, dkD, dkC, cfgD] at hee q6 hP2 ⊢
            simp (implicitDefEqProofs := false) (maxSteps := 10000000) [ir_reredoskeep_Desk_b0, g1, g, hee, h1, x1, f1, q6, hpe]
            exact ⟨by simp only [inR]; omega, hP2 _ [] (by simp (implicitDefEqProofs := false) (maxSteps := 10000000))⟩
        · have g1 : ¬ (q : Int) < ms.length := by omega
          obtain rfl : q = ms.length := by omega
          simp only [List.take_length] at hP' ⊢
          simp (implicitDefEqProofs := false) (maxSteps := 10000000) [ir_reredoskeep_Desk_b0, ir_reredoskeep_Desk_r1, ir_reredoskeep_Desk_r2, g1]
          exact ⟨by simp only [inR]; omega, hgo _ [] (by simp (implicitDefEqProofs := false) (maxSteps := 10000000))⟩
      · simp only [if_neg he] at hgo
        simp (implicitDefEqProofs := false) (maxSteps := 10000000) [ir_reredoskeep_Desk_b3, ir_reredoskeep_Desk_r1, ir_reredoskeep_Desk_r2, i1, i2, hl1, hel, h1, x1, f1, q1, hp, r4, h2, x2, f2, p2, h3, x3, f3, p3, he]
        exact ⟨by simp only [inR]; omega, hgo _ [] (by simp (implicitDefEqProofs := false) (maxSteps := 10000000))⟩
    · simp only [if_neg hp] at hgo
      have f5 : sp_Message.F [cfgD h.S h.ls h.P, .agg (rawC r)] = .agg (msgC (mkMsg h.S h.ls.length r)) := by
        have e : rawOf (.agg (rawC r)) = r := rfl
        simp only [sp_Message, cfgOf_cfgD, e]; rfl
      have p5 : sp_Message.pre [cfgD h.S h.ls h.P, .agg (rawC r)] = True := by
        simp only [sp_Message, eq_iff_iff, iff_true]
        exact ⟨_, r, rfl, ⟨isCfg_mk h.S h.ls h.P, by simp only [cfgOf_cfgD]; omega, by simp only [cfgOf_cfgD]; omega, by simp only [cfgOf_cfgD]; omega, by simp only [cfgOf_cfgD]; omega⟩, hrr⟩
      have f6 := hear_F h d.1 d.2 (hearM h r)
      have p6 := hear_pre h d.1 (js := d.2) (hearM h r) hfew.1 hfew.2
      generalize hearT h d.1 d.2 (hearM h r) = t at f6 hgo
      simp only [hearM] at f6 p6
      generalize mkMsg h.S h.ls.length r = m at f5 f6 p6
      obtain ⟨⟨t1, t2, t3, t4, ms, t6, t7⟩, e⟩ := t
      obtain ⟨ra, rb, rc, rd, re, rf⟩ := r
      obtain ⟨dn, dj⟩ := d
      obtain ⟨m1, m2, m3, m4, m5, m6, m7, m8, m9, m10, m11, m12⟩ := m
      simp only [keepD] at hgo
      simp only [rawC, msgC, dkD, dkC, cfgD, trnC] at hel f5 p5 f6 p6 hgo q1 hp ⊢
      by_cases he : e = 0
      · subst he
        simp only [if_true] at hgo
        simp (implicitDefEqProofs := false) (maxSteps := 10000000) [ir_reredoskeep_Desk_b3, ir_reredoskeep_Desk_r1, ir_reredoskeep_Desk_r2, i1, i2, hl1, hel, h1, x1, f1, q1, hp, h5, x5, f5, p5, h6, x6, f6, p6]
        exact ⟨by simp only [inR]; omega, hgo _ [] (by simp (implicitDefEqProofs := false) (maxSteps := 10000000))⟩
      · simp only [if_neg he] at hgo
        simp (implicitDefEqProofs := false) (maxSteps := 10000000) [ir_reredoskeep_Desk_b3, ir_reredoskeep_Desk_r1, ir_reredoskeep_Desk_r2, i1, i2, hl1, hel, h1, x1, f1, q1, hp, h5, x5, f5, p5, h6, x6, f6, p6, he]
        exact ⟨by simp only [inR]; omega, hgo _ [] (by simp (implicitDefEqProofs := false) (maxSteps := 10000000))⟩
  · have hf := hfin k hk2 hlt
    have i0 : ¬ ((k : Int) < L.length ∧ (k : Int) < most) := fun hh => hlt ⟨by omega, by omega⟩
    by_cases i1 : (k : Int) < L.length
    · have i2 : ¬ (k : Int) < most := fun hh => i0 ⟨i1, hh⟩
      simp (implicitDefEqProofs := false) (maxSteps := 10000000) [ir_reredoskeep_Desk_b3, ir_reredoskeep_Desk_r4, i1, i2, hf]
    · simp (implicitDefEqProofs := false) (maxSteps := 10000000) [ir_reredoskeep_Desk_b3, ir_reredoskeep_Desk_r4, i1, hf]
end
end Go.Proofs.YtchbnpjegacobaaDoor
