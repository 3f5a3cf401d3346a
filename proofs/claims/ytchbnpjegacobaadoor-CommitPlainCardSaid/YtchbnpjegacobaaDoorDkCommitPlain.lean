/-
  Who has read nothing is committed at once, and all sites that it wrote at are told: the law's function says so. Conditions: those of its specification's 'pre', and that the functions that are called are what theirs say.
-/
import Derived.Test.YtchbnpjegacobaaDoorDkH
import Derived.Test.YtchbnpjegacobaaDoorIrCommitPlain
set_option linter.unusedVariables false
set_option linter.unusedSimpArgs false
namespace Go.Proofs.YtchbnpjegacobaaDoor
open Go Go.Vcg

def sp_CommitPlain : Sp := { pre := fun ds => ∃ (s : Int) (keys : List Int), ds = [.int .i64 s, .fz 1 (keys.map ic)] ∧ inR .i64 s ∧ ((∀ k ∈ keys, inR .i64 k) ∧ keys.length ≤ 9223372036854775807), F := fun _ => .bool true }
section
variable {T : Tb}
attribute [local simp] k_seq k_block k_skip k_reg k_alt k_cond k_exit k_ret kf_nil kf_seq_n kf_seq_e kf_seq_r kf_blk_n kf_blk_e kf_blk_r kf_lp_n kf_lp_e kf_lp_r kf_cut_n kf_cut_e kf_cut_r mkTm VCops VCalt istep act gd applyE wrapD Opd.ev get_mk set_mk set_mk0 tget16 tset16 tget_0 tset_0 tget_1 tset_1 tget_2 tset_2 tget_3 tset_3 tget_4 tset_4 tget_5 tset_5 tget_6 tset_6 tget_7 tset_7 tget_8 tset_8 tget_9 tset_9 tget_10 tset_10 tget_11 tset_11 tget_12 tset_12 tget_13 tset_13 tget_14 tset_14 tget_15 tset_15 D.un D.gu gus IOp.opds binD fnPost getRes IRes.get oneRes D.out outL D.clos closL D.norow norowL D.lv lvL D.scal scalL D.cells D.cell D.cell' St.lk obPut obDel List.lookup cut pickD splice fillParts fillRows elem_cons newsOf D.pl D.forget forgetL Ob.forget forgetO eqCells sg leD leDL leOb apartK St.le D.keys keysL D.rows rowsL obKeys addKeys reach pos D.ren renL Ob.ren inM outM inObs outObs goneK apartN okNames_eq okNms obNms namesOK_nil namesOK_cons freeOK_nil freeOK_cons D.frz frzL Ob.frz frzO St.frz forgetLs dropObs putObs hcall freeOf keeps baseN shD isShift shMax k_bad VCopsG frz_nil actx actc cnum vwCut St.frzT St.opnT St.clsT D.opn opnL Ob.opn opnO VCou VCcx St.oneS D.objI D.objK scrL D.scr St.opnS St.clsS D.cellS D.fzs fzsL k_mrk k_mrq IOper.gh
set_option maxRecDepth 100000 in
set_option maxHeartbeats 16000000 in
theorem v_CommitPlain (h1 : T.sp n_reredoskeep_two = some sp_two) (h2 : T.sp n_reredoskeep_picked = some sp_picked) (h3 : T.sp n_coord_Call = some sp_Call) (h4 : T.sp n_reredoskeep_back = some sp_back) : Verified T ir_reredoskeep_CommitPlain sp_CommitPlain := by
  refine Verified.mk ?_
  rintro ds ⟨s, keys, rfl, hs, hkr, hkl⟩
  have hF : sp_CommitPlain.F [.int .i64 s, .fz 1 (keys.map ic)] = .bool true := rfl
  rw [hF]
  have x1 : sp_two.hx = none := rfl
  have x2 : sp_picked.hx = none := rfl
  have x3 : sp_Call.hx = none := rfl
  have x4 : sp_back.hx = none := rfl
  have bS := pk_bounds s 3 (by decide)
  have f1 := two_F s
  have p1 := two_pre hs
  have hS : 1 ≤ 1 + pk s 3 ∧ 1 + pk s 3 ≤ 4 := by omega
  generalize 1 + pk s 3 = S at f1 hS
  have f3 := call2_F S 0 0 (1, []) 6000 ⟨1, 0, 0, 0, 0⟩
  have p3 := call2_pre S 0 0 (d := (1, [])) 6000 ⟨1, 0, 0, 0, 0⟩ ⟨by simp, by simp⟩
  have e3 := one_begin hS (l := 0) (by omega)
  simp only at f3
  rw [e3] at f3
  have hm := hnd_nil S
  have hSn : S.toNat ≤ 4 := by omega
  simp only [cfgD, dkD, dkC, clC, trnC, rpC, recC, List.map_nil] at f1 p1 f3 p3 ⊢
  simp (implicitDefEqProofs := false) (maxSteps := 10000000) [ir_reredoskeep_CommitPlain, h1, x1, f1, p1, h3, x3, f3, p3, hm]
  refine ⟨⟨by omega, by omega, by omega⟩, ?_⟩
  refine k_loop (ι := {k : Nat // k ≤ keys.length ∧ k ≤ 10}) (fun x => ⟨mkTm 173 0 [(1, .fz 1 (keys.map ic)), (5, .own 5 0), (7, .int .i64 0), (8, .own 8 0), (9, .row 100), (10, .int .i64 (putU S keys x.1).length), (11, .int .i64 x.1)], [(5, .box [.int .i64 S, .fz 2 (ls2.map lbc), .int .i64 3]), (8, .box [.int .i64 2, .fz 6 [jbC (oneJ (putT keys x.1))]]), (100, .row 1 (hnd S (putU S keys x.1)))]⟩)
    (fun x => keys.length - x.1) [(100, some 32)] ⟨0, by omega⟩ (by simp (implicitDefEqProofs := false) (maxSteps := 10000000) [putU, putT, sitesU]) ?_
  rintro ⟨k, hk1, hk2⟩ P hP
  simp only at hP ⊢
  by_cases hlt : k < keys.length ∧ k < 10
  · obtain ⟨g1, g2⟩ := hlt
    have i1 : (k : Int) < keys.length := by omega
    have i2 : (k : Int) < 10 := by omega
    have hel := elem_map ic keys k g1
    have hin := hkr _ (List.getElem_mem g1)
    have hgd : keys.getD k 0 = keys[k] := by simp [List.getD, g1]
    have hK : putK keys k = pk keys[k] 8 := by rw [putK, hgd]
    have hkb := pk_bounds keys[k] 8 (by decide)
    have f2 := picked_F keys[k] 8
    have p2 := picked_pre hin (by decide : (0 : Int) < 8)
    rw [← hK] at f2 hkb
    obtain ⟨js, e1, e2, dk1, dk2⟩ := put_step hS keys g2 (put_dk hS keys k hk2)
    have hokh := okHd_2 hS (l := 0) (me := 0) (by omega) (by omega)
    have f5 := call2_F S 0 0 (2, [oneJ (putT keys k)]) 6000 (putX keys k)
    have p5 := call2_pre S 0 0 6000 (putX keys k) (dkO_few hokh (put_dk hS keys k hk2))
    simp only at f5
    rw [e1] at f5
    have hfew := dkO_few hokh dk1
    have f6 := back_F (hd2 S 0 0) (2, js) ⟨2, 0, (putK keys k).tmod S, 0, 1, 0, putK keys k, k, 0, k + 1, false, 0⟩ ⟨0, 0, 0, 0, 0, 0⟩
    have p6 := back_pre (hd2 S 0 0) ⟨2, 0, (putK keys k).tmod S, 0, 1, 0, putK keys k, k, 0, k + 1, false, 0⟩ (r := ⟨0, 0, 0, 0, 0, 0⟩) hfew ⟨by simp only [inR]; omega, by simp only [inR]; omega, by simp only [inR]; omega, by simp only [inR]; omega, by simp only [inR]; omega, by simp only [inR]; omega⟩
    rw [e2] at f6
    have hus := putU_succ S keys k
    have hul := putU_len S keys k
    have hP2 : ∀ U : List Int, putU S keys (k + 1) = U → ∀ (s : St) (σ : List (Nat × Option Nat)), St.le σ s ⟨mkTm 173 0 [(1, .fz 1 (keys.map ic)), (5, .own 5 0), (7, .int .i64 0), (8, .own 8 0), (9, .row 100), (10, .int .i64 U.length), (11, .int .i64 ((k + 1 : Nat) : Int))], [(5, .box [.int .i64 S, .fz 2 (ls2.map lbc), .int .i64 3]), (8, .box [.int .i64 2, .fz 6 [jbC (oneJ (putT keys (k + 1)))]]), (100, .row 1 (hnd S U))]⟩ → P s := by
      rintro U rfl s σ hs
      exact hP s σ ⟨k + 1, by omega⟩ hs (by simp only; omega)
    clear hP e1 e2 dk1 dk2
    have ht1 : 0 ≤ (putK keys k).tmod S := Int.tmod_nonneg _ hkb.1
    have ht2 : (putK keys k).tmod S < S := Int.tmod_lt_of_pos _ (by omega)
    generalize oneJ (putT keys (k + 1)) = J2 at f6 hP2
    generalize oneJ (putT keys k) = J1 at f5 p5 ⊢
    generalize putU S keys (k + 1) = U2 at hus hP2
    replace hP2 := hP2 U2 rfl
    subst hus
    generalize putU S keys k = U at hul hP2 ⊢
    simp only [putX] at f5 p5
    generalize hq : (putK keys k).tmod S = q0 at f5 f6 p6 ht1 ht2 hP2
    generalize putK keys k = key at f2 f5 p5 f6 p6 hkb hq
    generalize keys[k] = y at hel f2 p2
    obtain ⟨q, rfl⟩ : ∃ q : Nat, q0 = q := ⟨q0.toNat, by omega⟩
    have hqs : q < S.toNat := by omega
    have hhl := hnd_len S U
    have hhl2 : ((S.toNat : Nat) : Int) = S := by omega
    have hhe := hnd_elem U hqs
    have hhs := hnd_set U hqs
    have hS0 : ¬ S = 0 := by omega
    have hqi : (q : Int) < S := by omega
    generalize hH : hnd S U = H at hhl hhe hhs ⊢
    simp only [ic] at hel
    simp only [hd2, cfgD, dkD, dkC, clC, msgC, rawC, trnC, List.map_cons, List.map_nil] at f5 p5 f6 p6 ⊢
    have e0 : ∀ a : List D, elem [a] 0 = a := fun _ => rfl
    by_cases hm : (q : Int) ∈ U
    · rw [decide_eq_true hm] at hhe
      simp only [if_pos hm] at hP2
      simp (implicitDefEqProofs := false) (maxSteps := 10000000) [ir_reredoskeep_CommitPlain_b0, i1, i2, g1, hel, h2, x2, f2, p2, h3, x3, f5, p5, e0, h4, x4, f6, p6, hS0, hq, hhl, hhl2, hqs, hqi, hhe]
      exact ⟨by simp only [inR]; omega, hP2 _ [] (by simp (implicitDefEqProofs := false) (maxSteps := 10000000) [hH])⟩
    · rw [decide_eq_false hm] at hhe
      simp only [if_neg hm] at hP2
      simp (implicitDefEqProofs := false) (maxSteps := 10000000) [ir_reredoskeep_CommitPlain_b0, i1, i2, g1, hel, h2, x2, f2, p2, h3, x3, f5, p5, e0, h4, x4, f6, p6, hS0, hq, hhl, hhl2, hqs, hqi, hhe, hhs]
      exact ⟨by simp only [inR]; omega, by simp only [inR]; omega, hP2 _ [] (by simp (implicitDefEqProofs := false) (maxSteps := 10000000))⟩
  · obtain ⟨L, js, rs, e1, hL1, hL2, hjl, hrl⟩ := put_commit hS keys hk2
    have hokh := okHd_2 hS (l := 0) (me := 0) (by omega) (by omega)
    have f5 := call2_F S 0 0 (2, [oneJ (putT keys k)]) 6000 ⟨4, 1, 0, 0, 0⟩
    have p5 := call2_pre S 0 0 6000 ⟨4, 1, 0, 0, 0⟩ (dkO_few hokh (put_dk hS keys k hk2))
    simp only at f5
    rw [e1] at f5
    have hul := putU_len S keys k
    have hin : ∀ y ∈ L, 0 ≤ y ∧ y < S := by
      intro y hy
      obtain ⟨t, ht, _, rfl⟩ := ((sitesU_spec S 0 (putT keys k) [] List.nodup_nil).2 y).1 (hL2 y hy) |>.resolve_left (by simp)
      have := (put_dk hS keys k hk2).ok _ List.mem_cons_self
      have h8 := this.key t ht
      exact ⟨Int.tmod_nonneg _ h8.1, Int.tmod_lt_of_pos _ (by omega)⟩
    have i0 : ¬ ((k : Int) < keys.length ∧ (k : Int) < 10) := fun hh => hlt ⟨by omega, by omega⟩
    clear hP e1
    generalize oneJ (putT keys k) = J1 at f5 p5 ⊢
    have hU1 := hL1
    generalize putU S keys k = U at hL1 hL2 hjl hrl hul ⊢
    generalize hn : (U.length : Int) = n at hjl hrl ⊢
    have hn2 : (L.length : Int) = n := by omega
    have hnr : 0 ≤ n ∧ n ≤ 10 := by omega
    have e0 : ∀ a : List D, elem [a] 0 = a := fun _ => rfl
    have hml : ((L.map (tellC 0 1)).length : Int) = n := by rw [List.length_map]; exact hn2
    simp only [hd2, cfgD, dkD, dkC, clC, rpC, trnC, List.map_cons, List.map_nil] at f5 p5 ⊢
    have hgo : ∀ (s0 : St) (σ : List (Nat × Option Nat)), St.le σ s0 ⟨mkTm 173 0 [(9, .row 100), (10, .int .i64 n), (15, .own 15 0), (135, .fz 12 (L.map (tellC 0 1))), (136, .int .i64 n), (137, .int .i64 ((0 : Nat) : Int))], [(15, .box [.int .i64 2, .fz 6 (js.map jbC), .fz 12 (L.map (tellC 0 1)), .fz 8 rs, .fz 6 [[.int .i64 0, .int .i64 4, .int .i64 1, .int .i64 0, .int .i64 0, .int .i64 0]], .int .i64 1, .int .i64 1]), (100, .row 1 (hnd S U))]⟩ → VC T ir_reredoskeep_CommitPlain_b1.loop (Kf T [Fr.blk 2, Fr.seq ir_reredoskeep_CommitPlain_r2] (fnPost [IRes.tmp 4] (D.bool true))) s0 := by
      intro s0 σ h0
      refine k_loop (ι := {q : Nat // q ≤ L.length}) (fun x => ⟨mkTm 173 0 [(9, .row 100), (10, .int .i64 n), (15, .own 15 0), (135, .fz 12 (L.map (tellC 0 1))), (136, .int .i64 n), (137, .int .i64 x.1)], [(15, .box [.int .i64 2, .fz 6 (js.map jbC), .fz 12 (L.map (tellC 0 1)), .fz 8 rs, .fz 6 [[.int .i64 0, .int .i64 4, .int .i64 1, .int .i64 0, .int .i64 0, .int .i64 0]], .int .i64 1, .int .i64 1]), (100, .row 1 (hnd S U))]⟩)
        (fun x => L.length - x.1) σ ⟨0, by omega⟩ h0 ?_
      rintro ⟨q, hq⟩ P hP
      rcases Nat.lt_or_ge q L.length with g | g
      · have g1 : (q : Int) < n := by omega
        have hel := elem_map (tellC 0 1) L q g
        obtain ⟨y0, y1⟩ := hin _ (List.getElem_mem g)
        have hyU := hL2 _ (List.getElem_mem g)
        generalize L[q] = y at hel y0 y1 hyU
        obtain ⟨z, rfl⟩ : ∃ z : Nat, y = z := ⟨y.toNat, by omega⟩
        have hzs : z < S.toNat := by omega
        have hhl := hnd_len S U
        have hhl2 : ((S.toNat : Nat) : Int) = S := by omega
        have hhe := hnd_elem U hzs
        rw [decide_eq_true hyU] at hhe
        generalize hH : hnd S U = H at hhl hhe ⊢
        simp only [hH] at hP
        simp only [tellC, msgC] at hel
        have hml2 : q < (L.map (tellC 0 1)).length := by simpa using g
        have hqi : (q : Int) < ((L.map (tellC 0 1)).length : Int) := by rw [hml]; exact g1
        generalize L.map (tellC 0 1) = M at hel hml2 hqi hP hml ⊢
        simp (implicitDefEqProofs := false) (maxSteps := 10000000) [ir_reredoskeep_CommitPlain_b1, g1, hml2, hqi, hel, hhl, hhl2, hzs, y1, hhe]
        exact ⟨by simp only [inR]; omega, hP _ [] ⟨q + 1, by omega⟩ (by simp (implicitDefEqProofs := false) (maxSteps := 10000000)) (by simp only; omega)⟩
      · have g1 : ¬ (q : Int) < n := by omega
        simp (implicitDefEqProofs := false) (maxSteps := 10000000) [ir_reredoskeep_CommitPlain_b1, ir_reredoskeep_CommitPlain_r2, g1, hjl, hrl]
    by_cases i1 : (k : Int) < keys.length
    · have i2 : ¬ (k : Int) < 10 := fun hh => i0 ⟨i1, hh⟩
      simp (implicitDefEqProofs := false) (maxSteps := 10000000) [ir_reredoskeep_CommitPlain_b0, ir_reredoskeep_CommitPlain_r3, i1, i2, h3, x3, f5, p5, e0, hml, hn2]
      exact hgo _ [(100, some 100)] (by simp (implicitDefEqProofs := false) (maxSteps := 10000000))
    · simp (implicitDefEqProofs := false) (maxSteps := 10000000) [ir_reredoskeep_CommitPlain_b0, ir_reredoskeep_CommitPlain_r3, i1, h3, x3, f5, p5, e0, hml, hn2]
      exact hgo _ [(100, some 100)] (by simp (implicitDefEqProofs := false) (maxSteps := 10000000))
end
end Go.Proofs.YtchbnpjegacobaaDoor
