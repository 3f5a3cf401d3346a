/-
  Acts as lines: the numbers of an act, the words of a call, a text as digits of sixteen. Conditions: those of each specification's 'pre', and that the functions that are called are what theirs say.
-/
import Derived.Test.YthiggepiihoooaaDoorLnP
import Derived.Test.YthiggepiihoooaaDoorCsL
set_option linter.unusedVariables false
set_option linter.unusedSimpArgs false
namespace Go.Proofs.YthiggepiihoooaaDoor
open Go Go.Vcg

def sp_values : Sp := { pre := fun ds => ∃ a, ds = [actD a] ∧ okAc a, F := fun | [.agg a] => .fz 1 ((valsOf (actL a)).map ic) | _ => .any }
theorem values_F (a : Ac) : sp_values.F [.agg (actC a)] = .fz 1 ((valsOf a).map ic) := by simp only [sp_values, actL_actC]
theorem values_pre {a : Ac} (h : okAc a) : sp_values.pre [.agg (actC a)] = True := by
  simp only [sp_values, eq_iff_iff, iff_true]; exact ⟨a, rfl, h⟩
/-- Numbers of a call that may be. -/
def okCl (x : Cl5) : Prop := (1 ≤ x.kind ∧ x.kind ≤ 5) ∧ (0 ≤ x.n ∧ x.n < 10000000000) ∧ (0 ≤ x.label ∧ x.label < 10000000000) ∧ (0 ≤ x.key ∧ x.key < 10000000000) ∧ (0 ≤ x.value ∧ x.value < 10000000000)
def sp_asked : Sp := { pre := fun ds => ∃ x : Cl5, ds = [.agg (clC x)] ∧ okCl x, F := fun | [.agg x] => .str (askedOf (cl5Of x)) | _ => .any }
theorem asked_F (x : Cl5) : sp_asked.F [.agg (clC x)] = .str (askedOf x) := rfl
theorem asked_pre {x : Cl5} (h : okCl x) : sp_asked.pre [.agg (clC x)] = True := by
  simp only [sp_asked, eq_iff_iff, iff_true]; exact ⟨x, rfl, h⟩
def sp_hex : Sp := { pre := fun ds => ∃ s : List UInt8, ds = [.str s] ∧ s.length ≤ 4000000, F := fun | [.str s] => .str (hexOf s) | _ => .any }
theorem hex_F (s : List UInt8) : sp_hex.F [.str s] = .str (hexOf s) := rfl
theorem hex_pre {s : List UInt8} (h : s.length ≤ 4000000) : sp_hex.pre [.str s] = True := by
  simp only [sp_hex, eq_iff_iff, iff_true]; exact ⟨s, rfl, h⟩
theorem callVals_ok {x : Cl5} (h : okCl x) : (∀ n ∈ callVals x, 0 ≤ n ∧ n < 10000000000) ∧ (callVals x).length ≤ 3 := by
  obtain ⟨_, h1, h2, h3, h4⟩ := h
  unfold callVals
  repeat' split
  all_goals simp_all
theorem calls_at {k : Int} (h : 0 ≤ k ∧ k ≤ 5) : elem (callsL.map wc) k.toNat = [.str (callK k)] := by
  have hk : k.toNat < callsL.length := by have : callsL.length = 6 := rfl; omega
  rw [elem_map wc callsL k.toNat hk]
  simp [wc, callK, List.getD, hk]
theorem callK_len (k : Int) : (callK k).length ≤ 8 := by
  unfold callK
  have : ∀ n : Nat, (callsL.getD n []).length ≤ 8 := by
    intro n
    rcases (show n = 0 ∨ n = 1 ∨ n = 2 ∨ n = 3 ∨ n = 4 ∨ n = 5 ∨ 6 ≤ n by omega) with rfl | rfl | rfl | rfl | rfl | rfl | h
    all_goals first | decide | skip
    rw [List.getD_eq_getElem?_getD, List.getElem?_eq_none (by have : callsL.length = 6 := rfl; omega)]; simp
  exact this _
def b8u (b : UInt8) : List D := [.int .u8 b.toNat]
theorem bytes_b8u : ∀ l : List UInt8, bytesOf (l.map b8u) = some l
  | [] => rfl
  | b :: l => by
    show (bytesOf (l.map b8u)).map (UInt8.ofNat ((b.toNat : Int)).toNat :: ·) = some (b :: l)
    rw [bytes_b8u l]
    simp
theorem and15 : ∀ n : Fin 256, bitsI .and .u8 ((n.1 : Nat) : Int) 15 = ((n.1 % 16 : Nat) : Int) := by decide +kernel
theorem dig_get (n : Nat) (h : n < 16) : digitsL.getD n 0 = digitsL[n]'(by have : digitsL.length = 16 := rfl; omega) := by
  have : n < digitsL.length := by have : digitsL.length = 16 := rfl; omega
  simp [List.getD, this]

section
variable {T : Tb}
attribute [local simp] k_seq k_block k_skip k_reg k_alt k_cond k_exit k_ret kf_nil kf_seq_n kf_seq_e kf_seq_r kf_blk_n kf_blk_e kf_blk_r kf_lp_n kf_lp_e kf_lp_r kf_cut_n kf_cut_e kf_cut_r mkTm VCops VCalt istep act gd applyE wrapD Opd.ev get_mk set_mk set_mk0 tget16 tset16 tget_0 tset_0 tget_1 tset_1 tget_2 tset_2 tget_3 tset_3 tget_4 tset_4 tget_5 tset_5 tget_6 tset_6 tget_7 tset_7 tget_8 tset_8 tget_9 tset_9 tget_10 tset_10 tget_11 tset_11 tget_12 tset_12 tget_13 tset_13 tget_14 tset_14 tget_15 tset_15 D.un D.gu gus IOp.opds binD fnPost getRes IRes.get oneRes D.out outL D.clos closL D.norow norowL D.lv lvL D.scal scalL D.cells D.cell D.cell' St.lk obPut obDel List.lookup cut pickD splice fillParts fillRows elem_cons newsOf D.pl D.forget forgetL Ob.forget forgetO eqCells sg leD leDL leOb apartK St.le D.keys keysL D.rows rowsL obKeys addKeys reach pos D.ren renL Ob.ren inM outM inObs outObs goneK apartN okNames_eq okNms obNms namesOK_nil namesOK_cons freeOK_nil freeOK_cons D.frz frzL Ob.frz frzO St.frz forgetLs dropObs putObs hcall freeOf keeps baseN shD isShift shMax k_bad VCopsG frz_nil actx actc cnum vwCut St.frzT St.opnT St.clsT D.opn opnL Ob.opn opnO VCou VCcx St.oneS D.objI D.objK scrL D.scr St.opnS St.clsS D.cellS D.fzs fzsL k_mrk k_mrq IOper.gh
set_option maxRecDepth 100000 in
set_option maxHeartbeats 4000000 in
theorem v_values : Verified T ir_lines_values sp_values := by
  refine Verified.mk ?_
  rintro ds ⟨a, rfl, hok⟩
  have hF := values_F a
  simp only [actD] at hF ⊢
  rw [hF]
  clear hF
  unfold valsOf okAc at *
  obtain ⟨kind, site, to, label, pick, keep, ⟨c1, c2, c3, c4, c5⟩, line⟩ := a
  simp only at hok ⊢
  by_cases k2 : kind = 2
  · subst k2; simp (implicitDefEqProofs := false) [ir_lines_values, actC, ic]
  by_cases k3 : kind = 3
  · subst k3; simp (implicitDefEqProofs := false) [ir_lines_values, actC, ic]
  by_cases k4 : kind = 4
  · subst k4; simp (implicitDefEqProofs := false) [ir_lines_values, actC, ic]
  by_cases k5 : kind = 5
  · subst k5; simp (implicitDefEqProofs := false) [ir_lines_values, actC, ic]
  by_cases k6 : kind = 6
  · subst k6; simp (implicitDefEqProofs := false) [ir_lines_values, actC, ic]; omega
  by_cases k7 : kind = 7
  · subst k7; simp (implicitDefEqProofs := false) [ir_lines_values, actC, ic]
  simp (implicitDefEqProofs := false) [ir_lines_values, actC, ic, k2, k3, k4, k5, k6, k7]
set_option maxRecDepth 100000 in
set_option maxHeartbeats 4000000 in
theorem v_asked (hg : T.gl 1 = .ad 1 (callsL.map wc) 0 0) (h1 : T.sp n_strconv_Itoa = some sp_Itoa) : Verified T ir_lines_asked sp_asked := by
  refine Verified.mk ?_
  rintro ds ⟨x, rfl, hok⟩
  rw [asked_F]
  have x1 : sp_Itoa.hx = none := rfl
  obtain ⟨hv, hvl⟩ := callVals_ok hok
  have hk := hok.1
  have hel := calls_at (k := x.kind) (by omega)
  have hcl := callK_len x.kind
  have hcn : (callsL.map wc).length = 6 := rfl
  unfold askedOf
  obtain ⟨kind, n, label, key, value⟩ := x
  simp only at hk hel hcl hv hvl ⊢
  generalize callK kind = cw at hel hcl ⊢
  generalize callsL.map wc = ct at hel hcn hg
  have main : ∀ (vs : List Int), vs = callVals ⟨kind, n, label, key, value⟩ → True := fun _ _ => trivial
  generalize hvs : callVals ⟨kind, n, label, key, value⟩ = vs at hv hvl ⊢
  have hvr : ∀ i (h : i < vs.length), inR .i64 vs[i] := fun i h => by have := hv _ (List.getElem_mem h); simp only [inR]; omega
  rcases (show kind = 1 ∨ kind = 2 ∨ kind = 3 ∨ kind = 4 ∨ kind = 5 by omega) with k1 | k2 | k3 | k4 | k5
  · subst k1
    have hvs' : vs = [] := by rw [← hvs]; rfl
    have hel' : elem ct 1 = [.str cw] := hel
    simp (implicitDefEqProofs := false) [ir_lines_asked, clC, hg, hel', hcn]
    refine ⟨by omega, ?_⟩
    refine k_loop (ι := {i : Nat // i ≤ vs.length}) (fun y => ⟨mkTm 51 0 [(3, .str (32 :: (cw ++ numsS (vs.take y.1)))), (38, .fz 1 (vs.map ic)), (39, .int .i64 vs.length), (40, .int .i64 y.1)], []⟩)
      (fun y => vs.length - y.1) [] ⟨0, by omega⟩ (by simp (implicitDefEqProofs := false) (maxSteps := 10000000) [hvs', numsS, ic]) ?_
    clear hvs hvs'
    rintro ⟨i, hi⟩ Q hQ
    simp only at hQ
    by_cases h : i < vs.length
    · have hil : (i : Int) < vs.length := by omega
      have he := elem_map ic vs i h
      have hb := hv _ (List.getElem_mem h)
      have f2 := itoa_F vs[i]
      have p2 := itoa_pre (hvr i h)
      have l2 := itoa_len hb.1 hb.2
      have hsn : numsS (vs.take (i + 1)) = numsS (vs.take i) ++ 32 :: Lib.itoa vs[i] := by
        rw [List.take_succ_eq_append_getElem h, numsS_snoc]
      have hln := numsS_len (l := vs.take i) fun z hz => hv z (List.mem_of_mem_take hz)
      have htl : (vs.take i).length ≤ 3 := by rw [List.length_take]; omega
      generalize numsS (vs.take i) = ns at hsn hln ⊢
      generalize vs[i] = z at he f2 p2 l2 hsn
      simp only [ic] at he
      simp (implicitDefEqProofs := false) (maxSteps := 10000000) [ir_lines_asked_b0, hil, h, he, h1, x1, f2, p2, ic]
      exact ⟨by omega, by omega, by simp only [inR]; omega, hQ _ [] ⟨i + 1, by omega⟩ (by simp (implicitDefEqProofs := false) (maxSteps := 10000000) [hsn, ic]) (by simp only; omega)⟩
    · have hin : i = vs.length := by omega
      subst hin
      simp (implicitDefEqProofs := false) (maxSteps := 10000000) [ir_lines_asked_b0, ir_lines_asked_r1]
      done
  · subst k2
    have hvs' : vs = [n, label, key] := by rw [← hvs]; rfl
    have hel' : elem ct 2 = [.str cw] := hel
    simp (implicitDefEqProofs := false) [ir_lines_asked, clC, hg, hel', hcn]
    refine ⟨by omega, ?_⟩
    refine k_loop (ι := {i : Nat // i ≤ vs.length}) (fun y => ⟨mkTm 51 0 [(3, .str (32 :: (cw ++ numsS (vs.take y.1)))), (38, .fz 1 (vs.map ic)), (39, .int .i64 vs.length), (40, .int .i64 y.1)], []⟩)
      (fun y => vs.length - y.1) [] ⟨0, by omega⟩ (by simp (implicitDefEqProofs := false) (maxSteps := 10000000) [hvs', numsS, ic]) ?_
    clear hvs hvs'
    rintro ⟨i, hi⟩ Q hQ
    simp only at hQ
    by_cases h : i < vs.length
    · have hil : (i : Int) < vs.length := by omega
      have he := elem_map ic vs i h
      have hb := hv _ (List.getElem_mem h)
      have f2 := itoa_F vs[i]
      have p2 := itoa_pre (hvr i h)
      have l2 := itoa_len hb.1 hb.2
      have hsn : numsS (vs.take (i + 1)) = numsS (vs.take i) ++ 32 :: Lib.itoa vs[i] := by
        rw [List.take_succ_eq_append_getElem h, numsS_snoc]
      have hln := numsS_len (l := vs.take i) fun z hz => hv z (List.mem_of_mem_take hz)
      have htl : (vs.take i).length ≤ 3 := by rw [List.length_take]; omega
      generalize numsS (vs.take i) = ns at hsn hln ⊢
      generalize vs[i] = z at he f2 p2 l2 hsn
      simp only [ic] at he
      simp (implicitDefEqProofs := false) (maxSteps := 10000000) [ir_lines_asked_b0, hil, h, he, h1, x1, f2, p2, ic]
      exact ⟨by omega, by omega, by simp only [inR]; omega, hQ _ [] ⟨i + 1, by omega⟩ (by simp (implicitDefEqProofs := false) (maxSteps := 10000000) [hsn, ic]) (by simp only; omega)⟩
    · have hin : i = vs.length := by omega
      subst hin
      simp (implicitDefEqProofs := false) (maxSteps := 10000000) [ir_lines_asked_b0, ir_lines_asked_r1]
      done
  · subst k3
    have hvs' : vs = [n, key, value] := by rw [← hvs]; rfl
    have hel' : elem ct 3 = [.str cw] := hel
    simp (implicitDefEqProofs := false) [ir_lines_asked, clC, hg, hel', hcn]
    refine ⟨by omega, ?_⟩
    refine k_loop (ι := {i : Nat // i ≤ vs.length}) (fun y => ⟨mkTm 51 0 [(3, .str (32 :: (cw ++ numsS (vs.take y.1)))), (38, .fz 1 (vs.map ic)), (39, .int .i64 vs.length), (40, .int .i64 y.1)], []⟩)
      (fun y => vs.length - y.1) [] ⟨0, by omega⟩ (by simp (implicitDefEqProofs := false) (maxSteps := 10000000) [hvs', numsS, ic]) ?_
    clear hvs hvs'
    rintro ⟨i, hi⟩ Q hQ
    simp only at hQ
    by_cases h : i < vs.length
    · have hil : (i : Int) < vs.length := by omega
      have he := elem_map ic vs i h
      have hb := hv _ (List.getElem_mem h)
      have f2 := itoa_F vs[i]
      have p2 := itoa_pre (hvr i h)
      have l2 := itoa_len hb.1 hb.2
      have hsn : numsS (vs.take (i + 1)) = numsS (vs.take i) ++ 32 :: Lib.itoa vs[i] := by
        rw [List.take_succ_eq_append_getElem h, numsS_snoc]
      have hln := numsS_len (l := vs.take i) fun z hz => hv z (List.mem_of_mem_take hz)
      have htl : (vs.take i).length ≤ 3 := by rw [List.length_take]; omega
      generalize numsS (vs.take i) = ns at hsn hln ⊢
      generalize vs[i] = z at he f2 p2 l2 hsn
      simp only [ic] at he
      simp (implicitDefEqProofs := false) (maxSteps := 10000000) [ir_lines_asked_b0, hil, h, he, h1, x1, f2, p2, ic]
      exact ⟨by omega, by omega, by simp only [inR]; omega, hQ _ [] ⟨i + 1, by omega⟩ (by simp (implicitDefEqProofs := false) (maxSteps := 10000000) [hsn, ic]) (by simp only; omega)⟩
    · have hin : i = vs.length := by omega
      subst hin
      simp (implicitDefEqProofs := false) (maxSteps := 10000000) [ir_lines_asked_b0, ir_lines_asked_r1]
      done
  · subst k4
    have hvs' : vs = [n] := by rw [← hvs]; rfl
    have hel' : elem ct 4 = [.str cw] := hel
    simp (implicitDefEqProofs := false) [ir_lines_asked, clC, hg, hel', hcn]
    refine ⟨by omega, ?_⟩
    refine k_loop (ι := {i : Nat // i ≤ vs.length}) (fun y => ⟨mkTm 51 0 [(3, .str (32 :: (cw ++ numsS (vs.take y.1)))), (38, .fz 1 (vs.map ic)), (39, .int .i64 vs.length), (40, .int .i64 y.1)], []⟩)
      (fun y => vs.length - y.1) [] ⟨0, by omega⟩ (by simp (implicitDefEqProofs := false) (maxSteps := 10000000) [hvs', numsS, ic]) ?_
    clear hvs hvs'
    rintro ⟨i, hi⟩ Q hQ
    simp only at hQ
    by_cases h : i < vs.length
    · have hil : (i : Int) < vs.length := by omega
      have he := elem_map ic vs i h
      have hb := hv _ (List.getElem_mem h)
      have f2 := itoa_F vs[i]
      have p2 := itoa_pre (hvr i h)
      have l2 := itoa_len hb.1 hb.2
      have hsn : numsS (vs.take (i + 1)) = numsS (vs.take i) ++ 32 :: Lib.itoa vs[i] := by
        rw [List.take_succ_eq_append_getElem h, numsS_snoc]
      have hln := numsS_len (l := vs.take i) fun z hz => hv z (List.mem_of_mem_take hz)
      have htl : (vs.take i).length ≤ 3 := by rw [List.length_take]; omega
      generalize numsS (vs.take i) = ns at hsn hln ⊢
      generalize vs[i] = z at he f2 p2 l2 hsn
      simp only [ic] at he
      simp (implicitDefEqProofs := false) (maxSteps := 10000000) [ir_lines_asked_b0, hil, h, he, h1, x1, f2, p2, ic]
      exact ⟨by omega, by omega, by simp only [inR]; omega, hQ _ [] ⟨i + 1, by omega⟩ (by simp (implicitDefEqProofs := false) (maxSteps := 10000000) [hsn, ic]) (by simp only; omega)⟩
    · have hin : i = vs.length := by omega
      subst hin
      simp (implicitDefEqProofs := false) (maxSteps := 10000000) [ir_lines_asked_b0, ir_lines_asked_r1]
      done
  · subst k5
    have hvs' : vs = [n] := by rw [← hvs]; rfl
    have hel' : elem ct 5 = [.str cw] := hel
    simp (implicitDefEqProofs := false) [ir_lines_asked, clC, hg, hel', hcn]
    refine ⟨by omega, ?_⟩
    refine k_loop (ι := {i : Nat // i ≤ vs.length}) (fun y => ⟨mkTm 51 0 [(3, .str (32 :: (cw ++ numsS (vs.take y.1)))), (38, .fz 1 (vs.map ic)), (39, .int .i64 vs.length), (40, .int .i64 y.1)], []⟩)
      (fun y => vs.length - y.1) [] ⟨0, by omega⟩ (by simp (implicitDefEqProofs := false) (maxSteps := 10000000) [hvs', numsS, ic]) ?_
    clear hvs hvs'
    rintro ⟨i, hi⟩ Q hQ
    simp only at hQ
    by_cases h : i < vs.length
    · have hil : (i : Int) < vs.length := by omega
      have he := elem_map ic vs i h
      have hb := hv _ (List.getElem_mem h)
      have f2 := itoa_F vs[i]
      have p2 := itoa_pre (hvr i h)
      have l2 := itoa_len hb.1 hb.2
      have hsn : numsS (vs.take (i + 1)) = numsS (vs.take i) ++ 32 :: Lib.itoa vs[i] := by
        rw [List.take_succ_eq_append_getElem h, numsS_snoc]
      have hln := numsS_len (l := vs.take i) fun z hz => hv z (List.mem_of_mem_take hz)
      have htl : (vs.take i).length ≤ 3 := by rw [List.length_take]; omega
      generalize numsS (vs.take i) = ns at hsn hln ⊢
      generalize vs[i] = z at he f2 p2 l2 hsn
      simp only [ic] at he
      simp (implicitDefEqProofs := false) (maxSteps := 10000000) [ir_lines_asked_b0, hil, h, he, h1, x1, f2, p2, ic]
      exact ⟨by omega, by omega, by simp only [inR]; omega, hQ _ [] ⟨i + 1, by omega⟩ (by simp (implicitDefEqProofs := false) (maxSteps := 10000000) [hsn, ic]) (by simp only; omega)⟩
    · have hin : i = vs.length := by omega
      subst hin
      simp (implicitDefEqProofs := false) (maxSteps := 10000000) [ir_lines_asked_b0, ir_lines_asked_r1]
      done
set_option maxRecDepth 100000 in
set_option maxHeartbeats 4000000 in
theorem v_hex : Verified T ir_lines_hex sp_hex := by
  refine Verified.mk ?_
  rintro ds ⟨s, rfl, hs⟩
  rw [hex_F]
  simp (implicitDefEqProofs := false) [ir_lines_hex]
  refine k_loop (ι := {i : Nat // i ≤ s.length}) (fun y => ⟨mkTm 27 0 [(0, .str s), (3, .row 100), (7, .int .i64 s.length), (8, .int .i64 y.1)], [(100, .row 1 ((hexOf (s.take y.1)).map b8u))]⟩)
    (fun y => s.length - y.1) [(100, some 5)] ⟨0, by omega⟩ (by simp (implicitDefEqProofs := false) (maxSteps := 10000000) [hexOf, b8u]) ?_
  rintro ⟨i, hi⟩ Q hQ
  simp only at hQ
  by_cases h : i < s.length
  · have hil : (i : Int) < s.length := by omega
    have hgd : s[i]?.getD 0 = s[i] := by simp [h]
    have hb : s[i].toNat < 256 := s[i].toNat_lt
    have ha := and15 ⟨s[i].toNat, hb⟩
    simp only at ha
    have hd : ((s[i].toNat : Nat) : Int) / 16 = ((s[i].toNat / 16 : Nat) : Int) := by omega
    have q1 : s[i].toNat / 16 < 16 := by omega
    have q2 : s[i].toNat % 16 < 16 := by omega
    have hsn : hexOf (s.take (i + 1)) = hexOf (s.take i) ++ hexB s[i] := by
      unfold hexOf
      rw [List.take_succ_eq_append_getElem h]
      simp only [List.flatMap_append, List.flatMap_cons, List.flatMap_nil, List.append_nil, List.cons_append]
    have hln := hexOf_len (s.take i)
    rw [List.length_take] at hln
    unfold hexB at hsn
    generalize hexOf (s.take i) = hx at hsn hln ⊢
    generalize hp : s[i].toNat / 16 = p at hd q1 hsn
    generalize hq : s[i].toNat % 16 = q at ha q2 hsn
    have e16 : digitsL = [48, 49, 50, 51, 52, 53, 54, 55, 56, 57, 97, 98, 99, 100, 101, 102] := rfl
    have g1 : ∀ h', ([48, 49, 50, 51, 52, 53, 54, 55, 56, 57, 97, 98, 99, 100, 101, 102] : List UInt8)[p]'h' = digitsL.getD p 0 := fun h' => by rw [dig_get p q1]; rfl
    have g2 : ∀ h', ([48, 49, 50, 51, 52, 53, 54, 55, 56, 57, 97, 98, 99, 100, 101, 102] : List UInt8)[q]'h' = digitsL.getD q 0 := fun h' => by rw [dig_get q q2]; rfl
    generalize digitsL.getD p 0 = d1 at g1 hsn
    generalize digitsL.getD q 0 = d2 at g2 hsn
    have r1 : (p : Int) < 16 := by omega
    have r2 : (q : Int) < 16 := by omega
    have hbi : ((s[i].toNat : Nat) : Int) < 256 := by omega
    simp (implicitDefEqProofs := false) (maxSteps := 10000000) [ir_lines_hex_b0, hil, h, hgd, ha, hd, g1, g2, q1, q2, r1, r2]
    exact ⟨by omega, by simp only [inR]; omega, hQ _ [(100, some 23)] ⟨i + 1, by omega⟩ (by simp (implicitDefEqProofs := false) (maxSteps := 10000000) [hsn, b8u]) (by simp only; omega)⟩
  · have hin : i = s.length := by omega
    subst hin
    have hb := bytes_b8u (hexOf s)
    simp (implicitDefEqProofs := false) (maxSteps := 10000000) [ir_lines_hex_b0, ir_lines_hex_r1, hb]
    done
end
end Go.Proofs.YthiggepiihoooaaDoor
