/-
  Lines are read: a text, a call. Conditions: those of each specification's 'pre', and that the functions that are called are what theirs say.
-/
import Derived.Test.YthiggepiihoooaaDoorLnC
set_option linter.unusedVariables false
set_option linter.unusedSimpArgs false
namespace Go.Proofs.YthiggepiihoooaaDoor
open Go Go.Vcg

section
variable {T : Tb}
attribute [local simp] k_seq k_block k_skip k_reg k_alt k_cond k_exit k_ret kf_nil kf_seq_n kf_seq_e kf_seq_r kf_blk_n kf_blk_e kf_blk_r kf_lp_n kf_lp_e kf_lp_r kf_cut_n kf_cut_e kf_cut_r mkTm VCops VCalt istep act gd applyE wrapD Opd.ev get_mk set_mk set_mk0 tget16 tset16 tget_0 tset_0 tget_1 tset_1 tget_2 tset_2 tget_3 tset_3 tget_4 tset_4 tget_5 tset_5 tget_6 tset_6 tget_7 tset_7 tget_8 tset_8 tget_9 tset_9 tget_10 tset_10 tget_11 tset_11 tget_12 tset_12 tget_13 tset_13 tget_14 tset_14 tget_15 tset_15 D.un D.gu gus IOp.opds binD fnPost getRes IRes.get oneRes D.out outL D.clos closL D.norow norowL D.lv lvL D.scal scalL D.cells D.cell D.cell' St.lk obPut obDel List.lookup cut pickD splice fillParts fillRows elem_cons newsOf D.pl D.forget forgetL Ob.forget forgetO eqCells sg leD leDL leOb apartK St.le D.keys keysL D.rows rowsL obKeys addKeys reach pos D.ren renL Ob.ren inM outM inObs outObs goneK apartN okNames_eq okNms obNms namesOK_nil namesOK_cons freeOK_nil freeOK_cons D.frz frzL Ob.frz frzO St.frz forgetLs dropObs putObs hcall freeOf keeps baseN shD isShift shMax k_bad VCopsG frz_nil actx actc cnum vwCut St.frzT St.opnT St.clsT D.opn opnL Ob.opn opnO VCou VCcx St.oneS D.objI D.objK scrL D.scr St.opnS St.clsS D.cellS D.fzs fzsL k_mrk k_mrq IOper.gh
set_option maxRecDepth 100000 in
set_option maxHeartbeats 4000000 in
theorem v_text (h1 : T.sp n_lines_taker_next = some sp_next) (h2 : T.sp n_strings_IndexByte = some sp_IndexB) : Verified T ir_lines_taker_text sp_text := by
  refine Verified.mkx (hs := hs_tk tkText) rfl ?_
  rintro ds ob ⟨ws, b, rfl, rfl, hw⟩ R hR
  rw [tkO, text_F] at hR
  unfold tkO
  have x1 : sp_next.hx = some (hs_tk tkNext) := rfl
  have x2 : sp_IndexB.hx = none := rfl
  have f1 := next_F ws b
  have p1 := next_pre b hw
  have hl := nxtW_len (b := b) hw
  unfold textL at hR
  generalize hq : nxtW ws b = q at f1 hR hl
  obtain ⟨s, r, b2⟩ := q
  simp only at f1 hR hl
  have f2 : ∀ c : UInt8, sp_IndexB.F [.str [48, 49, 50, 51, 52, 53, 54, 55, 56, 57, 97, 98, 99, 100, 101, 102], .int .u8 ((c.toNat : Nat) : Int)] = .int .i64 (digV c) := fun c => indexB_F digitsL c
  have p2 : ∀ c : Int, sp_IndexB.pre [.str [48, 49, 50, 51, 52, 53, 54, 55, 56, 57, 97, 98, 99, 100, 101, 102], .int .u8 c] = True := fun c => indexB_pre (s := digitsL) c (by decide)
  have e16 : digitsL = [48, 49, 50, 51, 52, 53, 54, 55, 56, 57, 97, 98, 99, 100, 101, 102] := rfl
  by_cases hm : s.length % 2 = 1
  · have hm' : (s.length : Int) % 2 = 1 := by omega
    have hs0 : 0 < s.length := by omega
    cases s with
    | nil => simp at hs0
    | cons c l =>
    by_cases hc : c = 46
    · subst hc
      have hcc : (46 : UInt8).toNat = 46 := rfl
      rw [if_pos ⟨hm, rfl⟩] at hR
      simp only [List.drop_succ_cons, List.drop_zero] at hR
      have hll : l.length % 2 = 0 := by simp only [List.length_cons] at hm; omega
      have hlc : ((46 :: l).length : Int) = l.length + 1 := by simp
      simp only [List.length_cons] at hl hm hm' hs0
      have hm1 : ((l.length : Int) + 1) % 2 = 1 := by omega
      have hm2 : ((l.length : Int) + 1).tmod 2 = 1 := by rw [Int.tmod_eq_emod_of_nonneg (by omega)]; omega
      simp (implicitDefEqProofs := false) [ir_lines_taker_text, h1, x1, f1, p1, hm1, hm2, hcc]
      have hsd : (46 :: l).drop 1 = l := rfl
      have hlen : (46 :: l).length = l.length + 1 := rfl
      have htx : ∀ t, unhex l = some t → ∀ s σ, St.le σ s ⟨[.str t], [(1000000000, .box [.fz 1 (r.map wc), .bool b2])]⟩ → R s := fun t ht => by
        rw [ht] at hR; exact hR
      have hno : unhex l = none → ∀ s σ, St.le σ s ⟨[.str []], [(1000000000, .box [.fz 1 (r.map wc), .bool true])]⟩ → R s := fun ht => by
        rw [ht] at hR; exact hR
      clear hR f1 p1 hq hcc hlc hm hm' hs0 hm1 hm2 hw ws b
      generalize (46 :: l) = s at hsd hlen ⊢
      have hL : s.length = l.length + 1 := hlen
      refine k_loop (ι := {p : Nat × List UInt8 // p.1 ≤ s.length ∧ p.1 % 2 = 1 ∧ p.2.length ≤ p.1 ∧ unhex l = (unhex (s.drop p.1)).map (p.2 ++ ·)}) (fun y => ⟨mkTm 56 0 [(0, .own 1000000000 0), (2, .str []), (3, .str s), (4, .row 100), (5, .int .i64 y.1.1)], [(1000000000, .box [.fz 1 (r.map wc), .bool b2]), (100, .row 1 (y.1.2.map b8u))]⟩)
        (fun y => s.length - y.1.1) [(100, none)] ⟨(1, []), by simp only; omega, rfl, by simp, by rw [hsd]; simp⟩ (by simp (implicitDefEqProofs := false) (maxSteps := 10000000)) ?_
      rintro ⟨⟨i, t⟩, hi, hodd, htl, hun⟩ Q hQ
      simp only at hQ hi hodd htl hun
      by_cases h : i < s.length
      · have hil : (i : Int) < s.length := by omega
        have hi1 : i + 1 < s.length := by omega
        have hgd : s[i]?.getD 0 = s[i] := by simp [h]
        have hgd1 : s[i + 1]?.getD 0 = s[i + 1] := by simp [hi1]
        have hdr : s.drop i = s[i] :: s[i + 1] :: s.drop (i + 2) := by
          rw [List.drop_eq_getElem_cons h, List.drop_eq_getElem_cons hi1]
        rw [hdr] at hun
        have fx := f2 s[i]
        have fy := f2 s[i + 1]
        have bx := digV_lt s[i]
        have bY := digV_lt s[i + 1]
        have px := p2 ((s[i].toNat : Nat) : Int)
        have py := p2 ((s[i + 1].toNat : Nat) : Int)
        simp only [unhex] at hun
        generalize digV s[i] = dx at *
        generalize digV s[i + 1] = dy at *
        have hi1' : (i : Int) + 1 < s.length := by omega
        by_cases n1 : dx < 0
        · rw [if_pos (.inl n1)] at hun
          have hno' := hno hun
          by_cases n2 : dy < 0
          · simp (implicitDefEqProofs := false) (maxSteps := 10000000) [ir_lines_taker_text_b0, hil, h, hi1, hi1', hgd, hgd1, h2, x2, fx, fy, px, py, n1, n2]
            exact ⟨by simp only [inR]; omega, by omega, hno' _ [] (by simp (implicitDefEqProofs := false) (maxSteps := 10000000))⟩
          · simp (implicitDefEqProofs := false) (maxSteps := 10000000) [ir_lines_taker_text_b0, hil, h, hi1, hi1', hgd, hgd1, h2, x2, fx, fy, px, py, n1, n2]
            exact ⟨by simp only [inR]; omega, by omega, hno' _ [] (by simp (implicitDefEqProofs := false) (maxSteps := 10000000))⟩
        · by_cases n2 : dy < 0
          · rw [if_pos (.inr n2)] at hun
            have hno' := hno hun
            simp (implicitDefEqProofs := false) (maxSteps := 10000000) [ir_lines_taker_text_b0, hil, h, hi1, hi1', hgd, hgd1, h2, x2, fx, fy, px, py, n1, n2]
            exact ⟨by simp only [inR]; omega, by omega, hno' _ [] (by simp (implicitDefEqProofs := false) (maxSteps := 10000000))⟩
          · rw [if_neg (by omega)] at hun
            have hor := hexI' dx dy (by omega) (by omega)
            have hmd : (dx * 16 + dy) % 256 = dx * 16 + dy := by omega
            simp (implicitDefEqProofs := false) (maxSteps := 10000000) [ir_lines_taker_text_b0, hil, h, hi1, hi1', hgd, hgd1, h2, x2, fx, fy, px, py, n1, n2, hor, hmd]
            refine ⟨by simp only [inR]; omega, by omega, by simp only [inR]; omega, by omega, by simp only [inR]; omega, hQ _ [(100, some 53)] ⟨(i + 2, t ++ [UInt8.ofNat (dx * 16 + dy).toNat]), by simp only; omega, by simp only; omega, by simp only [List.length_append, List.length_cons, List.length_nil]; omega, ?_⟩ (by
              have eb : b8u (UInt8.ofNat (dx * 16 + dy).toNat) = [.int .u8 (dx * 16 + dy)] := by
                unfold b8u
                have : (UInt8.ofNat (dx * 16 + dy).toNat).toNat = (dx * 16 + dy).toNat := by simp; omega
                rw [this, Int.toNat_of_nonneg (by omega)]
              simp (implicitDefEqProofs := false) (maxSteps := 10000000) [eb]) (by simp only; omega)⟩
            simp only
            rw [hun, Option.map_map]
            congr 1
            funext z
            simp
      · have hin : i = s.length := by omega
        subst hin
        rw [List.drop_length] at hun
        have ht' := htx t (by rw [hun]; simp [unhex])
        have hb := bytes_b8u t
        simp (implicitDefEqProofs := false) (maxSteps := 10000000) [ir_lines_taker_text_b0, ir_lines_taker_text_r1, hb]
        exact ht' _ [] (by simp (implicitDefEqProofs := false) (maxSteps := 10000000))
    · have hcc : ¬ c.toNat = 46 := fun h => hc (by have := congrArg UInt8.ofNat h; simpa using this)
      have hcc' : ¬ (c.toNat : Int) = 46 := by omega
      rw [if_neg (by simp [hc])] at hR
      have hm2 : ((l.length : Int) + 1).tmod 2 = 1 := by rw [Int.tmod_eq_emod_of_nonneg (by omega)]; simp only [List.length_cons] at hm; omega
      have hm1 : ((l.length : Int) + 1) % 2 = 1 := by simp only [List.length_cons] at hm; omega
      simp (implicitDefEqProofs := false) [ir_lines_taker_text, h1, x1, f1, p1, hm1, hm2, hcc, hcc']
      exact hR _ [] (by simp (implicitDefEqProofs := false))
  · rw [if_neg (fun h => hm h.1)] at hR
    have hm1 : (s.length : Int) % 2 = 0 := by omega
    have hm2 : (s.length : Int).tmod 2 = 0 := by rw [Int.tmod_eq_emod_of_nonneg (by omega)]; omega
    simp (implicitDefEqProofs := false) [ir_lines_taker_text, h1, x1, f1, p1, hm1, hm2]
    exact hR _ [] (by simp (implicitDefEqProofs := false))
theorem callsDrop : callsL.map wc = wc [] :: (callsL.drop 1).map wc := rfl
set_option maxRecDepth 100000 in
set_option maxHeartbeats 4000000 in
theorem v_tcall (hg : T.gl 1 = .ad 1 (callsL.map wc) 0 0) (h1 : T.sp n_lines_taker_next = some sp_next) (h2 : T.sp n_lines_taker_number = some sp_num) (h3 : T.sp n_slices_Index_string_string = some sp_IndexW) : Verified T ir_lines_taker_call sp_tcall := by
  refine Verified.mkx (hs := hs_tk tkCall) rfl ?_
  rintro ds ob ⟨ws, b, rfl, rfl, hw⟩ R hR
  rw [tkO, tcall_F] at hR
  unfold tkO
  have x1 : sp_next.hx = some (hs_tk tkNext) := rfl
  have x2 : sp_num.hx = some (hs_tk tkNum) := rfl
  have x3 : sp_IndexW.hx = none := rfl
  have f1 := next_F ws b
  have p1 := next_pre b hw
  have hw1 := nxtW_tl (b := b) hw
  unfold callL at hR
  have f3 := indexW_F (callsL.drop 1) (nxtW ws b).1
  have p3 := indexW_pre (l := callsL.drop 1) (nxtW ws b).1 (by decide)
  have hbd := idxW_bounds (callsL.drop 1) (nxtW ws b).1
  have hdl : (callsL.drop 1).length = 5 := rfl
  rw [hdl] at hbd
  rw [callsDrop] at hg
  have hcl : ((callsL.drop 1).map wc).length = 5 := rfl
  have hca : (((callsL.drop 1).map wc).all fun e => e.all D.cell) = true := rfl
  have hcw : (wc []).all D.cell = true := rfl
  generalize (callsL.drop 1).map wc = ct at hg f3 p3 hcl hca
  generalize idxW (callsL.drop 1) (nxtW ws b).1 = k at f3 hbd hR
  generalize nxtW ws b = q at f1 hw1 f3 p3 hR
  obtain ⟨w, ws1, b1⟩ := q
  simp only at f1 hw1 f3 p3 hR
  have f4 := num_F ws1 b1
  have p4 := num_pre b1 hw1
  have hw2 := numL_tl (b := b1) hw1
  unfold callK1 at hR
  generalize numL ws1 b1 = q1 at f4 hw2 hR
  obtain ⟨n1, ws2, b2⟩ := q1
  simp only at f4 hw2 hR
  have f5 := num_F ws2 b2
  have p5 := num_pre b2 hw2
  have hw3 := numL_tl (b := b2) hw2
  generalize numL ws2 b2 = q2 at f5 hw3 hR
  obtain ⟨n2, ws3, b3⟩ := q2
  simp only at f5 hw3 hR
  have f6 := num_F ws3 b3
  have p6 := num_pre b3 hw3
  generalize numL ws3 b3 = q3 at f6 hR
  obtain ⟨n3, ws4, b4⟩ := q3
  simp only at f6 hR
  rcases (show k = -1 ∨ k = 0 ∨ k = 1 ∨ k = 2 ∨ k = 3 ∨ k = 4 by omega) with rfl | rfl | rfl | rfl | rfl | rfl
  · simp (implicitDefEqProofs := false) (maxSteps := 10000000) [ir_lines_taker_call, hg, hcl, hca, hcw, h1, x1, f1, p1, h3, x3, f3, p3, h2, x2, f4, p4, f5, p5, f6, p6]
    exact ⟨by simp only [inR]; omega, hR _ [] (by simp (implicitDefEqProofs := false) [clC, c0])⟩
  · simp (implicitDefEqProofs := false) (maxSteps := 10000000) [ir_lines_taker_call, hg, hcl, hca, hcw, h1, x1, f1, p1, h3, x3, f3, p3, h2, x2, f4, p4, f5, p5, f6, p6]
    exact ⟨by simp only [inR]; omega, hR _ [] (by simp (implicitDefEqProofs := false) [clC, c0])⟩
  · simp (implicitDefEqProofs := false) (maxSteps := 10000000) [ir_lines_taker_call, hg, hcl, hca, hcw, h1, x1, f1, p1, h3, x3, f3, p3, h2, x2, f4, p4, f5, p5, f6, p6]
    exact ⟨by simp only [inR]; omega, hR _ [] (by simp (implicitDefEqProofs := false) [clC, c0])⟩
  · simp (implicitDefEqProofs := false) (maxSteps := 10000000) [ir_lines_taker_call, hg, hcl, hca, hcw, h1, x1, f1, p1, h3, x3, f3, p3, h2, x2, f4, p4, f5, p5, f6, p6]
    exact ⟨by simp only [inR]; omega, hR _ [] (by simp (implicitDefEqProofs := false) [clC, c0])⟩
  · simp (implicitDefEqProofs := false) (maxSteps := 10000000) [ir_lines_taker_call, hg, hcl, hca, hcw, h1, x1, f1, p1, h3, x3, f3, p3, h2, x2, f4, p4, f5, p5, f6, p6]
    exact ⟨by simp only [inR]; omega, hR _ [] (by simp (implicitDefEqProofs := false) [clC, c0])⟩
  · simp (implicitDefEqProofs := false) (maxSteps := 10000000) [ir_lines_taker_call, hg, hcl, hca, hcw, h1, x1, f1, p1, h3, x3, f3, p3, h2, x2, f4, p4, f5, p5, f6, p6]
    exact ⟨by simp only [inR]; omega, hR _ [] (by simp (implicitDefEqProofs := false) [clC, c0])⟩
end
end Go.Proofs.YthiggepiihoooaaDoor
