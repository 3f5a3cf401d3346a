/-
  Acts are shown as lines: lines.Show, for acts that may be. Conditions: those of its specification's 'pre', and that the functions that are called are what theirs say.
-/
import Derived.Test.YthiggepiihoooaaDoorLnA
import Derived.Test.YthiggepiihoooaaDoorVcgF
set_option linter.unusedVariables false
set_option linter.unusedSimpArgs false
namespace Go.Proofs.YthiggepiihoooaaDoor
open Go Go.Vcg

theorem ws_pre (U e : TypeId) (bs s : List UInt8) : (hs_ws U e).pre [.own 1000000000 0, .str s] [(1000000000, .bld U e bs)] = (bs.length + s.length ≤ 140737488355328) := by
  simp only [hs_ws, bldO, eq_iff_iff]
  constructor
  · rintro ⟨bs', s', h1, h2, h3⟩; simp at h1 h2; subst h1 h2; exact h3
  · intro h; refine ⟨bs, s, ?_, ?_, h⟩ <;> first | rfl | trivial
theorem ws_F (U e : TypeId) (bs s : List UInt8) : (hs_ws U e).F [.own 1000000000 0, .str s] [(1000000000, .bld U e bs)] = (.any, [(1000000000, .bld U e (bs ++ s))]) := rfl
theorem wb_pre (U e : TypeId) (bs : List UInt8) (c : Int) : (hs_wb U e).pre [.own 1000000000 0, .int .u8 c] [(1000000000, .bld U e bs)] = (0 ≤ c ∧ c ≤ 255 ∧ bs.length + 1 ≤ 140737488355328) := by
  simp only [hs_wb, bldO, eq_iff_iff]
  constructor
  · rintro ⟨bs', s', h1, h2, h3⟩; simp at h1 h2; subst h1 h2; exact h3
  · intro h; refine ⟨bs, c, ?_, ?_, h⟩ <;> first | rfl | trivial
theorem wb_F (U e : TypeId) (bs : List UInt8) (c : Int) : (hs_wb U e).F [.own 1000000000 0, .int .u8 c] [(1000000000, .bld U e bs)] = (.any, [(1000000000, .bld U e (bs ++ [UInt8.ofNat c.toNat]))]) := rfl
theorem bs_pre (U e : TypeId) (bs : List UInt8) : (hs_bs U e).pre [.own 1000000000 0] [(1000000000, .bld U e bs)] = True := by
  simp only [hs_bs, bldO, eq_iff_iff, iff_true]; refine ⟨bs, ?_, ?_⟩ <;> first | rfl | trivial
theorem bs_F (U e : TypeId) (bs : List UInt8) : (hs_bs U e).F [.own 1000000000 0] [(1000000000, .bld U e bs)] = (.str bs, []) := rfl

/-- Acts that may be. -/
def okActs (S : Int) (L : Nat) (l : List Ac) : Prop := ∀ a ∈ l, actE S L a = 0 ∧ okAc a
def sp_Show : Sp := {
  pre := fun ds => ∃ (S : Int) (ls : List (Int × Int)) (P : Int) (l : List Ac), ds = [cfgD S ls P, .fz 12 (l.map actC)] ∧ check S ls P = 0 ∧ l.length ≤ 3000 ∧ okActs S ls.length l ∧ S ≤ 1000 ∧ ls.length ≤ 1000
  F := fun | [_, x] => .tup [.str (linesOf (actsOf x)), .int .i64 0, .int .i64 0] | _ => .any }
theorem show_F (S : Int) (ls : List (Int × Int)) (P : Int) (l : List Ac) : sp_Show.F [cfgD S ls P, .fz 12 (l.map actC)] = .tup [.str (linesOf l), .int .i64 0, .int .i64 0] := by
  have : actsOf (.fz 12 (l.map actC)) = l := actsOf_actsD l
  simp only [sp_Show, this]
theorem show_pre {S : Int} {ls : List (Int × Int)} {P : Int} {l : List Ac} (h1 : check S ls P = 0) (h2 : l.length ≤ 3000) (h3 : okActs S ls.length l) (h4 : S ≤ 1000) (h5 : ls.length ≤ 1000) : sp_Show.pre [cfgD S ls P, .fz 12 (l.map actC)] = True := by
  simp only [sp_Show, eq_iff_iff, iff_true]; exact ⟨S, ls, P, l, rfl, h1, h2, h3, h4, h5⟩
theorem lcheck_F {S P : Int} {ls : List (Int × Int)} (c : List (List D)) (hc : ls.map lbc = c) (a : Ac) (h : check S ls P = 0) : sp_LCheck.F [.agg [.int .i64 S, .fz 2 c, .int .i64 P], .agg (actC a)] = .int .i64 (actE S ls.length a) := by subst hc; exact lchk_F a h
/-- What holds of the numbers of an act that may be. -/
structure NumsOk (L : Int) (a : Ac) : Prop where
  k : 1 ≤ a.kind ∧ a.kind ≤ 8
  v : ∀ n ∈ valsOf a, 0 ≤ n ∧ n < 10000000000
  vl : (valsOf a).length ≤ 2000
  c : a.kind = 1 → okCl a.call
  l : a.line.length ≤ 60
theorem nums_ok {S : Int} {L : Nat} {a : Ac} (h : actE S L a = 0) (hS : S ≤ 1000) (hL : L ≤ 1000) : NumsOk L a := by
  unfold actE at h
  split at h
  · cases h
  rename_i h1
  split at h
  · cases h
  rename_i h2
  split at h
  · cases h
  have h2 := Classical.not_not.1 h2
  obtain ⟨s1, s2, t1, t2, l1, l2, p1, p2, k1, ln, kk⟩ := h2
  refine ⟨by omega, ?_, ?_, fun hk => ?_, ln⟩
  · unfold valsOf
    have hkeep : ∀ n ∈ a.keep, 0 ≤ n ∧ n < 10000000000 := by
      intro n hn
      unfold okKeep at kk
      have := List.all_eq_true.1 kk n hn
      simp at this
      omega
    repeat' split
    all_goals intro n hn
    all_goals simp only [List.mem_cons, List.not_mem_nil, or_false] at hn
    all_goals first | (rcases hn with rfl | rfl | rfl | rfl <;> omega) | (rcases hn with rfl | rfl <;> omega) | (rcases hn with rfl | hn; omega; exact hkeep n hn) | (subst hn; omega) | (exact hn.elim)
  · unfold valsOf
    repeat' split
    all_goals simp only [List.length_cons, List.length_nil]
    all_goals omega
  · rw [if_pos hk] at h
    unfold callB at h
    split at h
    · cases h
    rename_i q1
    split at h
    · cases h
    rename_i q2
    have q2 := Classical.not_not.1 q2
    unfold rngC at q2
    unfold okCl
    omega
theorem words_at {k : Int} (h : 1 ≤ k ∧ k ≤ 8) : elem (wordsL.map wc) k.toNat = [.str (wordK k)] := by
  have hk : k.toNat < wordsL.length := by have : wordsL.length = 9 := rfl; omega
  rw [elem_map wc wordsL k.toNat hk]
  simp [wc, wordK, List.getD, hk]
theorem wordK_len (k : Int) : (wordK k).length ≤ 8 := by
  unfold wordK
  have : ∀ n : Nat, (wordsL.getD n []).length ≤ 8 := by
    intro n
    rcases (show n = 0 ∨ n = 1 ∨ n = 2 ∨ n = 3 ∨ n = 4 ∨ n = 5 ∨ n = 6 ∨ n = 7 ∨ n = 8 ∨ 9 ≤ n by omega) with rfl | rfl | rfl | rfl | rfl | rfl | rfl | rfl | rfl | h
    all_goals first | decide | skip
    rw [List.getD_eq_getElem?_getD, List.getElem?_eq_none (by have : wordsL.length = 9 := rfl; omega)]; simp
  exact this _
theorem asked_len {x : Cl5} (h : okCl x) : (askedOf x).length ≤ 50 := by
  obtain ⟨h1, h2⟩ := callVals_ok h
  have := numsS_len h1
  have := callK_len x.kind
  unfold askedOf
  simp only [List.length_cons, List.length_append]
  omega
theorem tail_len {L : Int} {a : Ac} (h : NumsOk L a) : (tailOf a).length ≤ 200 := by
  unfold tailOf
  split
  · have := asked_len (h.c ‹_›); omega
  · split
    · have := hexOf_len a.line
      have := h.l
      simp only [List.length_cons]; omega
    · simp
theorem line_len {L : Int} {a : Ac} (h : NumsOk L a) : (lineOf a).length ≤ 30000 := by
  have h1 := wordK_len a.kind
  have h2 := numsS_len h.v
  have h3 := h.vl
  have h4 := tail_len h
  unfold lineOf
  simp only [List.length_append, List.length_cons, List.length_nil]
  omega
theorem lines_len {L : Int} : ∀ {l : List Ac}, (∀ a ∈ l, NumsOk L a) → (linesOf l).length ≤ 30000 * l.length
  | [], _ => by simp [linesOf]
  | a :: l, h => by
    have h1 := line_len (h a (by simp))
    have h2 := lines_len (l := l) fun x hx => h x (by simp [hx])
    simp only [linesOf, List.flatMap_cons, List.length_append, List.length_cons] at h2 ⊢
    omega

section
variable {T : Tb}
attribute [local simp] k_seq k_block k_skip k_reg k_alt k_cond k_exit k_ret kf_nil kf_seq_n kf_seq_e kf_seq_r kf_blk_n kf_blk_e kf_blk_r kf_lp_n kf_lp_e kf_lp_r kf_cut_n kf_cut_e kf_cut_r mkTm VCops VCalt istep act gd applyE wrapD Opd.ev get_mk set_mk set_mk0 tget16 tset16 tget_0 tset_0 tget_1 tset_1 tget_2 tset_2 tget_3 tset_3 tget_4 tset_4 tget_5 tset_5 tget_6 tset_6 tget_7 tset_7 tget_8 tset_8 tget_9 tset_9 tget_10 tset_10 tget_11 tset_11 tget_12 tset_12 tget_13 tset_13 tget_14 tset_14 tget_15 tset_15 D.un D.gu gus IOp.opds binD fnPost getRes IRes.get oneRes D.out outL D.clos closL D.norow norowL D.lv lvL D.scal scalL D.cells D.cell D.cell' St.lk obPut obDel List.lookup cut pickD splice fillParts fillRows elem_cons newsOf D.pl D.forget forgetL Ob.forget forgetO eqCells sg leD leDL leOb apartK St.le D.keys keysL D.rows rowsL obKeys addKeys reach pos D.ren renL Ob.ren inM outM inObs outObs goneK apartN okNames_eq okNms obNms namesOK_nil namesOK_cons freeOK_nil freeOK_cons D.frz frzL Ob.frz frzO St.frz forgetLs dropObs putObs hcall freeOf keeps baseN shD isShift shMax k_bad VCopsG frz_nil actx actc cnum vwCut St.frzT St.opnT St.clsT D.opn opnL Ob.opn opnO VCou VCcx St.oneS D.objI D.objK scrL D.scr St.opnS St.clsS D.cellS D.fzs fzsL k_mrk k_mrq IOper.gh
set_option maxRecDepth 100000 in
set_option maxHeartbeats 16000000 in
theorem v_Show (hg : T.gl 0 = .ad 1 (wordsL.map wc) 0 0) (h1 : T.sp n_label_Check = some sp_Check) (h2 : T.sp n_lines_Check = some sp_LCheck) (h3 : T.sp n_lines_values = some sp_values) (h4 : T.sp n_strconv_Itoa = some sp_Itoa) (h5 : T.sp n_lines_asked = some sp_asked) (h6 : T.sp n_lines_hex = some sp_hex)
    (h7 : T.sp n_strings_Builder_WriteString = some (sp_WriteString 58 5)) (h8 : T.sp n_strings_Builder_WriteByte = some (sp_WriteByte 58 5)) (h9 : T.sp n_strings_Builder_String = some (sp_BString 58 5)) : Verified T ir_lines_Show sp_Show := by
  refine Verified.mk ?_
  rintro ds ⟨S, ls, P, l, rfl, hck, hlen, hok, hS, hL⟩
  rw [show_F]
  have x1 : sp_Check.hx = none := rfl
  have x2 : sp_LCheck.hx = none := rfl
  have x3 : sp_values.hx = none := rfl
  have x4 : sp_Itoa.hx = none := rfl
  have x5 : sp_asked.hx = none := rfl
  have x6 : sp_hex.hx = none := rfl
  have x7 : (sp_WriteString 58 5).hx = some (hs_ws 58 5) := rfl
  have x8 : (sp_WriteByte 58 5).hx = some (hs_wb 58 5) := rfl
  have x9 : (sp_BString 58 5).hx = some (hs_bs 58 5) := rfl
  have f1 : sp_Check.F [cfgD S ls P] = .int .i64 0 := by simp only [sp_Check, cfgOf_cfgD, hck]
  have p1 : sp_Check.pre [cfgD S ls P] = True := by
    simp only [sp_Check, eq_iff_iff, iff_true]; exact ⟨_, rfl, by simp [isCfg, cfgD, isLb_lbc]⟩
  have hcfg : isCfg (cfgD S ls P) = true := by simp [isCfg, cfgD, isLb_lbc]
  have f2 := fun a => lchk_F (S := S) (P := P) (ls := ls) a hck
  have p2 := fun (a : Ac) (ha : okAc a) => lchk_pre (S := S) (P := P) (ls := ls) (a := a) hcfg ha
  have hno : ∀ a ∈ l, NumsOk ls.length a := fun a ha => nums_ok (hok a ha).1 hS hL
  have hel := fun i (h : i < l.length) => elem_map actC l i h
  have hlm : (l.map actC).length = l.length := List.length_map ..
  have hl' : ¬ 3000 < (l.length : Int) := by omega
  have hwn : (wordsL.map wc).length = 9 := rfl
  have hwe := fun (k : Int) (h : 1 ≤ k ∧ k ≤ 8) => words_at h
  generalize wordsL.map wc = wt at hg hwn hwe
  generalize l.map actC = es at hel hlm ⊢
  have hlc : (es.length : Int) = l.length := by omega
  generalize hcf : ls.map lbc = cs at f2 p2
  simp only [cfgD, hcf] at f1 p1 ⊢
  simp (implicitDefEqProofs := false) (maxSteps := 10000000) [ir_lines_Show, h1, x1, f1, p1, hlc, hl']
  refine k_loop (ι := {i : Nat // i ≤ l.length}) (fun y => ⟨mkTm 71 0 [(2, .own 2 0), (8, .own 8 0), (22, .fz 12 es), (23, .int .i64 l.length), (24, .int .i64 y.1)], [(2, .box [.int .i64 S, .fz 2 cs, .int .i64 P]), (8, .bld 58 5 (linesOf (l.take y.1)))]⟩)
    (fun y => l.length - y.1) [] ⟨0, by omega⟩ (by simp (implicitDefEqProofs := false) (maxSteps := 10000000) [linesOf]) ?_
  rintro ⟨i, hi⟩ Q hQ
  simp only at hQ
  by_cases h : i < l.length
  · have hil : (i : Int) < l.length := by omega
    have hil' : i < es.length := by omega
    have he := hel i h
    obtain ⟨hg0, hoka⟩ := hok _ (List.getElem_mem h)
    have hn := hno _ (List.getElem_mem h)
    have f2' := f2 l[i]
    have p2' := p2 l[i] hoka
    rw [hg0] at f2'
    have f3 := values_F l[i]
    have p3 := values_pre hoka
    have hsn : linesOf (l.take (i + 1)) = linesOf (l.take i) ++ lineOf l[i] := by
      rw [List.take_succ_eq_append_getElem h, linesOf_app]; simp [linesOf]
    have hln := lines_len (l := l.take i) fun z hz => hno z (List.mem_of_mem_take hz)
    have htl : (l.take i).length ≤ 3000 := by rw [List.length_take]; omega
    have hw := hwe _ hn.k
    have hwl := wordK_len l[i].kind
    have hvl := hn.vl
    have hvv := hn.v
    have hnl := numsS_len hn.v
    have htail := tail_len hn
    have f6 := hex_F l[i].line
    have p6 := hex_pre (s := l[i].line) (by have := hn.l; omega)
    have f5 := asked_F l[i].call
    have p5 : l[i].kind = 1 → sp_asked.pre [.agg (clC l[i].call)] = True := fun hk => asked_pre (hn.c hk)
    have hkk := hn.k
    have hll := hn.l
    have hhl := hexOf_len l[i].line
    have hal : l[i].kind = 1 → (askedOf l[i].call).length ≤ 50 := fun hk => asked_len (hn.c hk)
    unfold lineOf tailOf at hsn
    generalize linesOf (l.take i) = bs at hsn hln ⊢
    generalize hvs : valsOf l[i] = vs at f3 hvl hvv hnl hsn
    clear f2 p2 hel hok hno htail hn
    generalize l[i] = a at *
    obtain ⟨kind, site, to, label, pick, keep, ⟨c1, c2, c3, c4, c5⟩, line⟩ := a
    simp only [actC, clC] at he f2' p2' f3 p3 hw hwl hsn f5 p5 f6 p6 hkk hll hhl hal
    generalize wordK kind = wk at hw hwl hsn
    have hkn : kind < 9 := by omega
    have hk0 : 0 ≤ kind := by omega
    simp (implicitDefEqProofs := false) (maxSteps := 10000000) [ir_lines_Show_b3, hil, hil', he, h2, x2, f2', p2', hg, hwn, hw, h3, x3, f3, p3, h7, x7, ws_pre, ws_F, hkn, hk0]
    refine ⟨by omega, ?_⟩
    refine k_loop (ι := {j : Nat // j ≤ vs.length}) (fun z => ⟨mkTm 71 0 [(2, .own 2 0), (8, .own 8 0), (10, .own 10 0), (22, .fz 12 es), (23, .int .i64 l.length), (24, .int .i64 i), (42, .fz 1 (vs.map ic)), (43, .int .i64 vs.length), (44, .int .i64 z.1)],
        [(2, .box [.int .i64 S, .fz 2 cs, .int .i64 P]), (8, .bld 58 5 (bs ++ (wk ++ numsS (vs.take z.1)))), (10, .box [.int .i64 kind, .int .i64 site, .int .i64 to, .int .i64 label, .int .i64 pick, .fz 1 (keep.map ic), .int .i64 c1, .int .i64 c2, .int .i64 c3, .int .i64 c4, .int .i64 c5, .str line])]⟩)
      (fun z => vs.length - z.1) [] ⟨0, by omega⟩ (by simp (implicitDefEqProofs := false) (maxSteps := 10000000) [numsS]) ?_
    rintro ⟨j, hj⟩ Q2 hQ2
    simp only at hQ2
    by_cases h' : j < vs.length
    · have hjl : (j : Int) < vs.length := by omega
      have he2 := elem_map ic vs j h'
      have hb := hvv _ (List.getElem_mem h')
      have f4 := itoa_F vs[j]
      have p4 := itoa_pre (n := vs[j]) (by simp only [inR]; omega)
      have l2 := itoa_len hb.1 hb.2
      have hsn2 : numsS (vs.take (j + 1)) = numsS (vs.take j) ++ 32 :: Lib.itoa vs[j] := by
        rw [List.take_succ_eq_append_getElem h', numsS_snoc]
      have hln2 := numsS_len (l := vs.take j) fun z hz => hvv z (List.mem_of_mem_take hz)
      have htl2 : (vs.take j).length ≤ 2000 := by rw [List.length_take]; omega
      generalize numsS (vs.take j) = ns at hsn2 hln2 ⊢
      generalize vs[j] = z at he2 f4 p4 l2 hsn2
      simp only [ic] at he2
      simp (implicitDefEqProofs := false) (maxSteps := 10000000) [ir_lines_Show_b0, hjl, h', he2, h4, x4, f4, p4, h7, x7, ws_pre, ws_F, ic]
      exact ⟨by omega, by omega, by simp only [inR]; omega, hQ2 _ [] ⟨j + 1, by omega⟩ (by simp (implicitDefEqProofs := false) (maxSteps := 10000000) [hsn2, ic]) (by simp only; omega)⟩
    · have hjn : j = vs.length := by omega
      subst hjn
      have htk : vs.take vs.length = vs := List.take_length
      simp only [htk]
      have hnl2 : (numsS vs).length ≤ 22000 := by omega
      generalize numsS vs = nv at hsn hnl2 ⊢
      clear hQ2
      by_cases k1 : kind = 1
      · subst k1
        simp only [if_true] at hsn
        have p5' := p5 rfl
        have hal' := hal rfl
        clear p5 hal
        generalize askedOf ⟨c1, c2, c3, c4, c5⟩ = ak at f5 hal' hsn
        simp (implicitDefEqProofs := false) (maxSteps := 10000000) [ir_lines_Show_b0, ir_lines_Show_r1, ir_lines_Show_r2, h5, x5, f5, p5', h7, x7, ws_pre, ws_F, h8, x8, wb_pre, wb_F]
        exact ⟨by omega, by omega, by simp only [inR]; omega, hQ _ [] ⟨i + 1, by omega⟩ (by simp (implicitDefEqProofs := false) (maxSteps := 10000000) [hsn]) (by simp only; omega)⟩
      · by_cases k8 : kind = 8
        · subst k8
          simp only [k1, if_false, if_true] at hsn
          generalize hexOf line = hx at f6 hhl hsn
          simp (implicitDefEqProofs := false) (maxSteps := 10000000) [ir_lines_Show_b0, ir_lines_Show_r1, ir_lines_Show_r2, h6, x6, f6, p6, h7, x7, ws_pre, ws_F, h8, x8, wb_pre, wb_F]
          exact ⟨by omega, by omega, by omega, by simp only [inR]; omega, hQ _ [] ⟨i + 1, by omega⟩ (by simp (implicitDefEqProofs := false) (maxSteps := 10000000) [hsn]) (by simp only; omega)⟩
        · simp only [k1, k8, if_false] at hsn
          simp (implicitDefEqProofs := false) (maxSteps := 10000000) [ir_lines_Show_b0, ir_lines_Show_r1, ir_lines_Show_r2, k1, k8, h7, x7, ws_pre, ws_F, h8, x8, wb_pre, wb_F]
          exact ⟨by omega, by simp only [inR]; omega, hQ _ [] ⟨i + 1, by omega⟩ (by simp (implicitDefEqProofs := false) (maxSteps := 10000000) [hsn]) (by simp only; omega)⟩
  · have hin : i = l.length := by omega
    subst hin
    simp (implicitDefEqProofs := false) (maxSteps := 10000000) [ir_lines_Show_b3, ir_lines_Show_r4, h9, x9, bs_pre, bs_F]
end
end Go.Proofs.YthiggepiihoooaaDoor
