/-
  What operators see: the words of a transaction, the list of what is prepared, the audit of what was forced. Conditions: those of each specification's 'pre', and that the functions that are called are what theirs say.
-/
import Derived.Test.YtghehknnaifoeaaDoorShP
import Derived.Test.YtghehknnaifoeaaDoorVcgF
set_option linter.unusedVariables false
set_option linter.unusedSimpArgs false
namespace Go.Proofs.YtghehknnaifoeaaDoor
open Go Go.Vcg

/-! ### The builder's functions at data that are known -/
theorem ws_pre (U e : TypeId) (bs s : List UInt8) : (hs_ws U e).pre [.own 1000000000 0, .str s] [(1000000000, .bld U e bs)] = (bs.length + s.length ≤ 140737488355328) := by
  simp only [hs_ws, bldO, eq_iff_iff]
  constructor
  · rintro ⟨bs', s', h1, h2, h3⟩; simp at h1 h2; subst h1 h2; exact h3
  · intro h; refine ⟨bs, s, ?_, ?_, h⟩ <;> first | rfl | trivial
theorem ws_F (U e : TypeId) (bs s : List UInt8) : (hs_ws U e).F [.own 1000000000 0, .str s] [(1000000000, .bld U e bs)] = (.any, [(1000000000, .bld U e (bs ++ s))]) := rfl
theorem wb_pre (U e : TypeId) (bs : List UInt8) (c : Int) : (hs_wb U e).pre [.own 1000000000 0, .int .u8 c] [(1000000000, .bld U e bs)] = (0 ≤ c ∧ c ≤ 255 ∧ bs.length + 1 ≤ 140737488355328) := by
  simp only [hs_wb, bldO, eq_iff_iff]
  constructor
  · rintro ⟨bs', s', h1, h2, h3⟩; simp at h1 h2; subst h1 h2; exact h3
  · intro h; refine ⟨bs, c, ?_, ?_, h⟩ <;> first | rfl | trivial
theorem wb_F (U e : TypeId) (bs : List UInt8) (c : Int) : (hs_wb U e).F [.own 1000000000 0, .int .u8 c] [(1000000000, .bld U e bs)] = (.any, [(1000000000, .bld U e (bs ++ [UInt8.ofNat c.toNat]))]) := rfl
theorem bs_pre (U e : TypeId) (bs : List UInt8) : (hs_bs U e).pre [.own 1000000000 0] [(1000000000, .bld U e bs)] = True := by
  simp only [hs_bs, bldO, eq_iff_iff, iff_true]; refine ⟨bs, ?_, ?_⟩ <;> first | rfl | trivial
theorem bs_F (U e : TypeId) (bs : List UInt8) : (hs_bs U e).F [.own 1000000000 0] [(1000000000, .bld U e bs)] = (.str bs, []) := rfl

def sp_words : Sp := { pre := fun ds => ∃ (l : Int) (t : Tx), ds = [.int .i64 l, .agg (txC t)] ∧ inN l ∧ inN t.1 ∧ inN t.2, F := fun | [.int _ l, .agg t] => .str (wordsS l (txOf t)) | _ => .any }
theorem words_F (l : Int) (t : Tx) : sp_words.F [.int .i64 l, .agg (txC t)] = .str (wordsS l t) := by simp only [sp_words, txOf_txC]
theorem words_pre {l : Int} {t : Tx} (h1 : inN l) (h2 : inN t.1) (h3 : inN t.2) : sp_words.pre [.int .i64 l, .agg (txC t)] = True := by
  simp only [sp_words, eq_iff_iff, iff_true]; exact ⟨l, t, rfl, h1, h2, h3⟩
noncomputable def sp_prepared : Sp := { pre := fun ds => ∃ (s : Sto) (t : Tx), ds = [stoD s, .agg (txC t)] ∧ fewS' s, F := fun | [x, .agg t] => .bool (prepB (stoOf x) (txOf t)) | _ => .any }
theorem prepared_F (s : Sto) (t : Tx) : sp_prepared.F [.agg (stoC s), .agg (txC t)] = .bool (prepB s t) := by
  have e : D.agg (stoC s) = stoD s := rfl
  simp only [sp_prepared, e, stoOf_stoD, txOf_txC]
theorem prepared_pre {s : Sto} (h : fewS' s) (t : Tx) : sp_prepared.pre [.agg (stoC s), .agg (txC t)] = True := by
  simp only [sp_prepared, eq_iff_iff, iff_true]; exact ⟨s, t, rfl, h⟩
noncomputable def hs_list (U e : TypeId) : HSp := {
  pre := fun ds ob => ∃ (bs : List UInt8) (l : Int) (s : Sto), ds = [.own 1000000000 0, .int .i64 l, stoD s] ∧ ob = bldO U e bs ∧ inN l ∧ fewS' s ∧ (∀ d ∈ s.doubts, okD d) ∧ bs.length ≤ 10000000
  F := fun ds ob => match ds, ob with
    | [_, .int _ l, x], [(_, .bld U e bs)] => (.tup [], bldO U e (bs ++ listS l (stoOf x) (stoOf x).doubts))
    | _, _ => (.any, []) }
noncomputable def sp_list (U e : TypeId) : Sp := { pre := fun _ => True, F := fun _ => .any, hx := some (hs_list U e) }
theorem list_F (U e : TypeId) (bs : List UInt8) (l : Int) (s : Sto) : (hs_list U e).F [.own 1000000000 0, .int .i64 l, .agg (stoC s)] [(1000000000, .bld U e bs)] = (.tup [], [(1000000000, .bld U e (bs ++ listS l s s.doubts))]) := by
  have h : D.agg (stoC s) = stoD s := rfl
  simp only [hs_list, bldO, h, stoOf_stoD]
theorem list_pre (U e : TypeId) {bs : List UInt8} {l : Int} {s : Sto} (h1 : inN l) (h2 : fewS' s) (h3 : ∀ d ∈ s.doubts, okD d) (h4 : bs.length ≤ 10000000) : (hs_list U e).pre [.own 1000000000 0, .int .i64 l, .agg (stoC s)] [(1000000000, .bld U e bs)] = True := by
  simp only [hs_list, eq_iff_iff, iff_true]; exact ⟨bs, l, s, rfl, rfl, h1, h2, h3, h4⟩
def ntOf : List D → Nt
  | [.int _ a, .int _ b, .bool c, .bool d] => ⟨a, b, c, d⟩
  | _ => ⟨0, 0, false, false⟩
theorem nts_of (ns : List Nt) : (ns.map ntC).map ntOf = ns := by
  rw [List.map_map]; exact List.map_id'' (fun _ => rfl) ns
def hs_audit (U e : TypeId) : HSp := {
  pre := fun ds ob => ∃ (bs : List UInt8) (l : Int) (ns : List Nt), ds = [.own 1000000000 0, .int .i64 l, .fz 4 (ns.map ntC)] ∧ ob = bldO U e bs ∧ inN l ∧ (∀ x ∈ ns, okN x) ∧ ns.length ≤ 1000 ∧ bs.length ≤ 10000000
  F := fun ds ob => match ds, ob with
    | [_, .int _ l, .fz _ es], [(_, .bld U e bs)] => (.tup [], bldO U e (bs ++ auditS l (es.map ntOf)))
    | _, _ => (.any, []) }
def sp_audit (U e : TypeId) : Sp := { pre := fun _ => True, F := fun _ => .any, hx := some (hs_audit U e) }
theorem audit_F (U e : TypeId) (bs : List UInt8) (l : Int) (ns : List Nt) : (hs_audit U e).F [.own 1000000000 0, .int .i64 l, .fz 4 (ns.map ntC)] [(1000000000, .bld U e bs)] = (.tup [], [(1000000000, .bld U e (bs ++ auditS l ns))]) := by
  simp only [hs_audit, bldO, nts_of]
theorem audit_pre (U e : TypeId) {bs : List UInt8} {l : Int} {ns : List Nt} (h1 : inN l) (h2 : ∀ x ∈ ns, okN x) (h3 : ns.length ≤ 1000) (h4 : bs.length ≤ 10000000) : (hs_audit U e).pre [.own 1000000000 0, .int .i64 l, .fz 4 (ns.map ntC)] [(1000000000, .bld U e bs)] = True := by
  simp only [hs_audit, eq_iff_iff, iff_true]; exact ⟨bs, l, ns, rfl, rfl, h1, h2, h3, h4⟩
theorem inN_R {n : Int} (h : inN n) : inR .i64 n := by obtain ⟨a, b⟩ := h; simp only [inR]; omega

section
variable {T : Tb}
attribute [local simp] k_seq k_block k_skip k_reg k_alt k_cond k_exit k_ret kf_nil kf_seq_n kf_seq_e kf_seq_r kf_blk_n kf_blk_e kf_blk_r kf_lp_n kf_lp_e kf_lp_r kf_cut_n kf_cut_e kf_cut_r mkTm VCops VCalt istep act gd applyE wrapD Opd.ev get_mk set_mk set_mk0 tget16 tset16 tget_0 tset_0 tget_1 tset_1 tget_2 tset_2 tget_3 tset_3 tget_4 tset_4 tget_5 tset_5 tget_6 tset_6 tget_7 tset_7 tget_8 tset_8 tget_9 tset_9 tget_10 tset_10 tget_11 tset_11 tget_12 tset_12 tget_13 tset_13 tget_14 tset_14 tget_15 tset_15 D.un D.gu gus IOp.opds binD fnPost getRes IRes.get oneRes D.out outL D.clos closL D.norow norowL D.lv lvL D.scal scalL D.cells D.cell D.cell' St.lk obPut obDel List.lookup cut pickD splice fillParts fillRows elem_cons newsOf D.pl D.forget forgetL Ob.forget forgetO eqCells sg leD leDL leOb apartK St.le D.keys keysL D.rows rowsL obKeys addKeys reach pos D.ren renL Ob.ren inM outM inObs outObs goneK apartN okNames_eq okNms obNms namesOK_nil namesOK_cons freeOK_nil freeOK_cons D.frz frzL Ob.frz frzO St.frz forgetLs dropObs putObs hcall freeOf keeps baseN shD isShift shMax k_bad VCopsG frz_nil actx actc cnum vwCut St.frzT St.opnT St.clsT D.opn opnL Ob.opn opnO VCou VCcx St.oneS D.objI D.objK scrL D.scr St.opnS St.clsS D.cellS D.fzs fzsL k_mrk k_mrq IOper.gh
set_option maxRecDepth 100000 in
set_option maxHeartbeats 4000000 in
theorem v_words (h1 : T.sp n_strconv_Itoa = some sp_Itoa) : Verified T ir_console_words sp_words := by
  refine Verified.mk ?_
  rintro ds ⟨l, ⟨t1, t2⟩, rfl, hl, h2, h3⟩
  rw [words_F]
  simp only at h2 h3
  have x1 : sp_Itoa.hx = none := rfl
  have f1 := itoa_F l
  have f2 := itoa_F t1
  have f3 := itoa_F t2
  have p1 := itoa_pre (inN_R hl)
  have p2 := itoa_pre (inN_R h2)
  have p3 := itoa_pre (inN_R h3)
  have l1 := itoa_len hl
  have l2 := itoa_len h2
  have l3 := itoa_len h3
  unfold wordsS
  generalize Lib.itoa l = a at *
  generalize Lib.itoa t1 = b at *
  generalize Lib.itoa t2 = c at *
  simp (implicitDefEqProofs := false) [ir_console_words, txC, h1, x1, f1, f2, f3, p1, p2, p3]
  exact ⟨by omega, by omega, by omega, by omega⟩
set_option maxRecDepth 100000 in
set_option maxHeartbeats 4000000 in
theorem v_prepared (h1 : T.sp n_store_Writes = some sp_Writes) : Verified T ir_console_prepared sp_prepared := by
  refine Verified.mk ?_
  rintro ds ⟨s, t, rfl, hf⟩
  have x1 : sp_Writes.hx = none := rfl
  have f1 := writes_F s t
  have p1 := writes_pre hf t
  have hF := prepared_F s t
  unfold prepB at hF
  simp only [stoD]
  rw [hF]
  clear hF
  generalize writesS s t = w at f1
  obtain ⟨n, e⟩ := w
  obtain ⟨a, b, c, d⟩ := s
  obtain ⟨t1, t2⟩ := t
  simp only [stoC, txC] at f1 p1 ⊢
  by_cases he : e = 0
  · subst he
    simp (implicitDefEqProofs := false) [ir_console_prepared, h1, x1, f1, p1]
  · simp (implicitDefEqProofs := false) [ir_console_prepared, h1, x1, f1, p1, he]
set_option maxRecDepth 100000 in
set_option maxHeartbeats 8000000 in
theorem v_list (h1 : T.sp n_console_prepared = some sp_prepared) (h2 : T.sp n_console_words = some sp_words) (h3 : T.sp n_strconv_Itoa = some sp_Itoa) (h4 : T.sp n_strings_Builder_WriteString = some (sp_WriteString 62 5)) : Verified T ir_console_list (sp_list 62 5) := by
  refine Verified.mkx rfl ?_
  rintro ds ob ⟨bs, l, s, rfl, rfl, hl, hf, hd, hb⟩ R hR
  simp only [stoD, bldO] at hR ⊢
  rw [list_F] at hR
  have x1 : sp_prepared.hx = none := rfl
  have x2 : sp_words.hx = none := rfl
  have x3 : sp_Itoa.hx = none := rfl
  have x4 : (sp_WriteString 62 5).hx = some (hs_ws 62 5) := rfl
  have f1 := fun t => prepared_F s t
  have p1 := fun t => prepared_pre hf t
  have hlen : s.doubts.length ≤ 10000 := hf.2.2.1
  have hbl := fun (j : Nat) => list_len (l := l) s hl (ds := s.doubts.take j) fun d h => hd d (List.mem_of_mem_take h)
  have hst := fun (j : Nat) (h : j < s.doubts.length) => (show listS l s (s.doubts.take (j + 1)) = listS l s (s.doubts.take j) ++ _ by rw [List.take_succ_eq_append_getElem h, list_snoc])
  have hel := fun j (h : j < s.doubts.length) => elem_map dbC s.doubts j h
  have htk : s.doubts.take s.doubts.length = s.doubts := List.take_length
  have hdm : ∀ j (h : j < s.doubts.length), okD s.doubts[j] := fun j h => hd _ (List.getElem_mem h)
  have hlm : (s.doubts.map dbC).length = s.doubts.length := List.length_map ..
  simp only [stoC] at f1 p1 ⊢
  generalize s.items.map itC = ra at *
  generalize s.locks.map lkC = rb at *
  generalize s.over.map txC = rd at *
  generalize s.doubts = dl at *
  generalize dl.map dbC = rc at *
  have hlc : (rc.length : Int) = dl.length := by omega
  simp (implicitDefEqProofs := false) (maxSteps := 10000000) [ir_console_list, hlc]
  refine k_loop (ι := {j : Nat // j ≤ dl.length}) (fun z => ⟨mkTm 32 0 [(0, .own 1000000000 0), (1, .int .i64 l), (5, .own 5 0), (9, .fz 3 rc), (10, .int .i64 dl.length), (11, .int .i64 z.1)], [(1000000000, .bld 62 5 (bs ++ listS l s (dl.take z.1))), (5, .box [.fz 3 ra, .fz 6 rb, .fz 3 rc, .fz 2 rd])]⟩)
    (fun z => dl.length - z.1) [] ⟨0, by omega⟩ (by simp (implicitDefEqProofs := false) (maxSteps := 10000000) [listS]) ?_
  rintro ⟨j, hj⟩ Q hQ
  simp only at hQ
  by_cases h : j < dl.length
  · have hjl : (j : Int) < dl.length := by omega
    have hjr : j < rc.length := by omega
    have he := hel j h
    have hs := hst j h
    have hb1 := hbl j
    have hdj := hdm j h
    have htl : (dl.take j).length ≤ 10000 := by rw [List.length_take]; omega
    have hdl := doubt_len hl hdj
    generalize dl[j] = d at he hs hdj hdl
    obtain ⟨d1, d2, d3⟩ := d
    obtain ⟨n1, n2, n3⟩ := hdj
    simp only [dbC] at he n1 n2 n3 hs
    generalize listS l s (dl.take j) = xs at hs hb1 ⊢
    have f1' := f1 (d1, d2)
    have p1' := p1 (d1, d2)
    have f2 := words_F l (d1, d2)
    have p2 := words_pre (t := (d1, d2)) hl n1 n2
    have f3 := itoa_F d3
    have p3 := itoa_pre (inN_R n3)
    have wl := words_len (t := (d1, d2)) hl n1 n2
    have il := itoa_len n3
    simp only [doubtS] at hs hdl
    simp only [txC] at f1' p1' f2 p2
    cases hp : prepB s (d1, d2)
    · rw [hp] at f1' hs
      simp only [Bool.false_eq_true, if_false, List.append_nil] at hs
      simp (implicitDefEqProofs := false) (maxSteps := 10000000) [ir_console_list_b0, hjl, h, hjr, he, h1, x1, f1', p1']
      exact ⟨by simp only [inR]; omega, hQ _ [] ⟨j + 1, by omega⟩ (by simp (implicitDefEqProofs := false) (maxSteps := 10000000) [hs]) (by simp only; omega)⟩
    · rw [hp] at f1' hs
      simp only [if_true] at hs
      generalize wordsS l (d1, d2) = ww at f2 hs wl
      generalize Lib.itoa d3 = ii at f3 hs il
      simp (implicitDefEqProofs := false) (maxSteps := 10000000) [ir_console_list_b0, hjl, h, hjr, he, h1, x1, f1', p1', h2, x2, f2, p2, h3, x3, f3, p3, h4, x4, ws_pre, ws_F]
      exact ⟨by omega, by omega, by omega, by omega, by simp only [inR]; omega, hQ _ [] ⟨j + 1, by omega⟩ (by simp (implicitDefEqProofs := false) (maxSteps := 10000000) [hs]) (by simp only; omega)⟩
  · have hjn : j = dl.length := by omega
    subst hjn
    have hjl : ¬ (dl.length : Int) < dl.length := by omega
    rw [htk]
    simp (implicitDefEqProofs := false) (maxSteps := 10000000) [ir_console_list_b0]
    exact hR _ [] (by simp (implicitDefEqProofs := false) (maxSteps := 10000000))
set_option maxRecDepth 100000 in
set_option maxHeartbeats 8000000 in
theorem v_audit (h2 : T.sp n_console_words = some sp_words) (h4 : T.sp n_strings_Builder_WriteString = some (sp_WriteString 62 5)) (h5 : T.sp n_strings_Builder_WriteByte = some (sp_WriteByte 62 5)) : Verified T ir_console_audit (sp_audit 62 5) := by
  refine Verified.mkx rfl ?_
  rintro ds ob ⟨bs, l, ns, rfl, rfl, hl, hd, hlen, hb⟩ R hR
  simp only [bldO] at hR ⊢
  rw [audit_F] at hR
  have x2 : sp_words.hx = none := rfl
  have x4 : (sp_WriteString 62 5).hx = some (hs_ws 62 5) := rfl
  have x5 : (sp_WriteByte 62 5).hx = some (hs_wb 62 5) := rfl
  have hbl := fun (j : Nat) => audit_len (l := l) hl (ns := ns.take j) fun d h => hd d (List.mem_of_mem_take h)
  have hst := fun (j : Nat) (h : j < ns.length) => (show auditS l (ns.take (j + 1)) = auditS l (ns.take j) ++ _ by rw [List.take_succ_eq_append_getElem h, audit_snoc])
  have hel := fun j (h : j < ns.length) => elem_map ntC ns j h
  have htk : ns.take ns.length = ns := List.take_length
  have hdm : ∀ j (h : j < ns.length), okN ns[j] := fun j h => hd _ (List.getElem_mem h)
  have hlm : (ns.map ntC).length = ns.length := List.length_map ..
  generalize ns.map ntC = rc at *
  have hlc : (rc.length : Int) = ns.length := by omega
  simp (implicitDefEqProofs := false) (maxSteps := 10000000) [ir_console_audit, hlc]
  refine k_loop (ι := {j : Nat // j ≤ ns.length}) (fun z => ⟨mkTm 33 0 [(0, .own 1000000000 0), (1, .int .i64 l), (8, .fz 4 rc), (9, .int .i64 ns.length), (10, .int .i64 z.1)], [(1000000000, .bld 62 5 (bs ++ auditS l (ns.take z.1)))]⟩)
    (fun z => ns.length - z.1) [] ⟨0, by omega⟩ (by simp (implicitDefEqProofs := false) (maxSteps := 10000000) [auditS]) ?_
  rintro ⟨j, hj⟩ Q hQ
  simp only at hQ
  by_cases h : j < ns.length
  · have hjl : (j : Int) < ns.length := by omega
    have hjr : j < rc.length := by omega
    have he := hel j h
    have hs := hst j h
    have hb1 := hbl j
    have hdj := hdm j h
    have htl : (ns.take j).length ≤ 1000 := by rw [List.length_take]; omega
    have hdl := note_len hl hdj
    generalize ns[j] = d at he hs hdj hdl
    obtain ⟨d1, d2, d3, d4⟩ := d
    obtain ⟨n1, n2⟩ := hdj
    simp only [ntC] at he n1 n2 hs
    generalize auditS l (ns.take j) = xs at hs hb1 ⊢
    have f2 := words_F l (d1, d2)
    have p2 := words_pre (t := (d1, d2)) hl n1 n2
    have wl := words_len (t := (d1, d2)) hl n1 n2
    simp only [noteS] at hs hdl
    simp only [txC] at f2 p2
    generalize wordsS l (d1, d2) = ww at f2 hs wl
    cases d3 <;> cases d4 <;> simp only [Bool.false_eq_true, if_false, if_true, List.nil_append] at hs <;>
      simp (implicitDefEqProofs := false) (maxSteps := 10000000) [ir_console_audit_b0, hjl, h, hjr, he, h2, x2, f2, p2, h4, x4, ws_pre, ws_F, h5, x5, wb_pre, wb_F]
    all_goals refine ⟨by omega, by omega, by omega, ?_⟩
    all_goals first | exact ⟨by simp only [inR]; omega, hQ _ [] ⟨j + 1, by omega⟩ (by simp (implicitDefEqProofs := false) (maxSteps := 10000000) [hs]) (by simp only; omega)⟩ | exact ⟨by omega, by simp only [inR]; omega, hQ _ [] ⟨j + 1, by omega⟩ (by simp (implicitDefEqProofs := false) (maxSteps := 10000000) [hs]) (by simp only; omega)⟩
  · have hjn : j = ns.length := by omega
    subst hjn
    rw [htk]
    simp (implicitDefEqProofs := false) (maxSteps := 10000000) [ir_console_audit_b0]
    exact hR _ [] (by simp (implicitDefEqProofs := false) (maxSteps := 10000000))
end
end Go.Proofs.YtghehknnaifoeaaDoor
