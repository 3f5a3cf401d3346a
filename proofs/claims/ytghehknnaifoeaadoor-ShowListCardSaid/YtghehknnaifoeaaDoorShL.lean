/-
  Listed is who is prepared, line by line: the law's function says so. Conditions: those of its specification's 'pre', and that the functions that are called are what theirs say.
-/
import Derived.Test.YtghehknnaifoeaaDoorShB
set_option linter.unusedVariables false
set_option linter.unusedSimpArgs false
namespace Go.Proofs.YtghehknnaifoeaaDoor
open Go Go.Vcg

def ls1 : List (Int × Int) := [(0, 0)]
theorem range1 : List.range 1 = [0] := rfl
theorem show_list (s : Sto) : showT ls1 0 [s] [[]] ⟨1, 0, 0, 0, false⟩ = (listS 0 s s.doubts, 0) := by simp [showT, ls1, partsS, range1, partS]
theorem show_stat (s : Sto) (a n : Int) : showT ls1 0 [s] [[]] ⟨2, 0, a, n, false⟩ = (if prepB s (a, n) = true then prepW else unkW, 0) := by simp [showT, ls1, statS]
theorem show_force (s : Sto) : showT ls1 0 [s] [[]] ⟨3, 0, 0, 0, false⟩ = ([], 3) := by simp [showT]
theorem okSh_store (l : List Rw) {m : Nat} (hm : m ≤ 100) : okSh (storeK l m) := ⟨(invK_store l (m := m) (by omega)).ok, fewN_fewS' (fewN_store l m) hm⟩
theorem plain_ls1 : plainL ls1 := by intro p hp; simp only [ls1, List.mem_singleton] at hp; subst hp; rfl
theorem pre1 {s : Sto} (h : okSh s) (c : Cm) (hc : c.kind = 2 → 0 ≤ c.label ∧ c.label < 1) : sp_CShow.pre [cfgD 1 ls1 3, .int .i64 0, .fz 4 ([s].map stoC), .fz 1 ([[]].map nsC), .agg (cmC c)] = True := by
  refine cshow_pre (l := 0) (by decide) (by decide) (by decide) rfl rfl ?_ ?_ plain_ls1 hc
  · intro x hx; simp only [List.mem_singleton] at hx; subst hx; exact h
  · intro x hx; simp only [List.mem_singleton] at hx; subst hx; exact ⟨by simp, by simp⟩
/-! ### Line ends -/
def nl (l : List UInt8) : Nat := l.countP (· == 10)
theorem nl_app (a b : List UInt8) : nl (a ++ b) = nl a + nl b := by simp [nl]
theorem nl_cons (c : UInt8) (b : List UInt8) : nl (c :: b) = nl b + if c == 10 then 1 else 0 := by simp [nl, List.countP_cons]
theorem nl_itoa {n : Int} (h : inN n) : nl (Lib.itoa n) = 0 := by
  obtain ⟨h0, h1⟩ := h
  obtain ⟨u, rfl⟩ : ∃ u : Nat, n = u := ⟨n.toNat, by omega⟩
  rw [itoa_nat, nl, List.countP_eq_zero]
  intro c hc
  have := dd_digit u u (Nat.le_refl u) c hc
  intro he
  have : c = 10 := by simpa using he
  subst this
  simp at this
theorem nl_words {l : Int} {t : Tx} (hl : inN l) (h1 : inN t.1) (h2 : inN t.2) : nl (wordsS l t) = 0 := by
  unfold wordsS
  rw [nl_app, nl_cons, nl_app, nl_cons, nl_itoa hl, nl_itoa h1, nl_itoa h2]
  decide
theorem nl_doubt {l : Int} {d : Db} (hl : inN l) (h : okD d) : nl (doubtS l d) = 1 := by
  unfold doubtS
  rw [nl_app, nl_cons, nl_app, nl_words hl h.1 h.2.1, nl_itoa h.2.2]
  decide
noncomputable def prepN (s : Sto) (ds : List Db) : Nat := ds.countP fun d => prepB s (d.site, d.n)
theorem nl_list {l : Int} (s : Sto) (hl : inN l) : ∀ {ds : List Db}, (∀ d ∈ ds, okD d) → nl (listS l s ds) = prepN s ds
  | [], _ => rfl
  | d :: ds, h => by
    have h1 := nl_doubt hl (h d (by simp))
    have h2 := nl_list s hl (ds := ds) fun x hx => h x (by simp [hx])
    have e : listS l s (d :: ds) = (if prepB s (d.site, d.n) = true then doubtS l d else []) ++ listS l s ds := by simp [listS]
    rw [e, nl_app, h2, prepN, prepN, List.countP_cons]
    cases prepB s (d.site, d.n)
    · simp [nl]
    · simp [h1]; omega
theorem prepN_succ (s : Sto) (ds : List Db) {j : Nat} (h : j < ds.length) : prepN s (ds.take (j + 1)) = prepN s (ds.take j) + if prepB s (ds[j].site, ds[j].n) = true then 1 else 0 := by
  rw [prepN, List.take_succ_eq_append_getElem h, List.countP_append]
  simp [prepN]
theorem prepN_le (s : Sto) (ds : List Db) : prepN s ds ≤ ds.length := List.countP_le_length
theorem nl_succ (t : List UInt8) {j : Nat} (h : j < t.length) : nl (t.take (j + 1)) = nl (t.take j) + if t[j] == 10 then 1 else 0 := by
  rw [nl, List.take_succ_eq_append_getElem h, List.countP_append]
  simp [nl]
theorem nl_le (t : List UInt8) : nl t ≤ t.length := List.countP_le_length
def sp_ShowList : Sp := { pre := fun ds => ∃ (low : List Rw), ds = [rawsD low] ∧ okRaws low, F := fun _ => .bool true }
section
variable {T : Tb}
attribute [local simp] k_seq k_block k_skip k_reg k_alt k_cond k_exit k_ret kf_nil kf_seq_n kf_seq_e kf_seq_r kf_blk_n kf_blk_e kf_blk_r kf_lp_n kf_lp_e kf_lp_r kf_cut_n kf_cut_e kf_cut_r mkTm VCops VCalt istep act gd applyE wrapD Opd.ev get_mk set_mk set_mk0 tget16 tset16 tget_0 tset_0 tget_1 tset_1 tget_2 tset_2 tget_3 tset_3 tget_4 tset_4 tget_5 tset_5 tget_6 tset_6 tget_7 tset_7 tget_8 tset_8 tget_9 tset_9 tget_10 tset_10 tget_11 tset_11 tget_12 tset_12 tget_13 tset_13 tget_14 tset_14 tget_15 tset_15 D.un D.gu gus IOp.opds binD fnPost getRes IRes.get oneRes D.out outL D.clos closL D.norow norowL D.lv lvL D.scal scalL D.cells D.cell D.cell' St.lk obPut obDel List.lookup cut pickD splice fillParts fillRows elem_cons newsOf D.pl D.forget forgetL Ob.forget forgetO eqCells sg leD leDL leOb apartK St.le D.keys keysL D.rows rowsL obKeys addKeys reach pos D.ren renL Ob.ren inM outM inObs outObs goneK apartN okNames_eq okNms obNms namesOK_nil namesOK_cons freeOK_nil freeOK_cons D.frz frzL Ob.frz frzO St.frz forgetLs dropObs putObs hcall freeOf keeps baseN shD isShift shMax k_bad VCopsG frz_nil actx actc cnum vwCut St.frzT St.opnT St.clsT D.opn opnL Ob.opn opnO VCou VCcx St.oneS D.objI D.objK scrL D.scr St.opnS St.clsS D.cellS D.fzs fzsL k_mrk k_mrq IOper.gh
set_option maxRecDepth 100000 in
set_option maxHeartbeats 16000000 in
theorem v_ShowList (h1 : T.sp n_reredoskeep_lone = some sp_lone) (h2 : T.sp n_store_Writes = some sp_Writes) (h3 : T.sp n_reredoskeep_Store = some sp_Store) (h4 : T.sp n_console_Show = some sp_CShow) : Verified T ir_reredoskeep_ShowList sp_ShowList := by
  refine Verified.mk ?_
  rintro ds ⟨low, rfl, hlo⟩
  have hF : sp_ShowList.F [rawsD low] = .bool true := rfl
  rw [hF]
  have x1 : sp_lone.hx = none := rfl
  have x2 : sp_Writes.hx = none := rfl
  have x3 : sp_Store.hx = none := rfl
  have x4 : sp_CShow.hx = none := rfl
  have f1 : sp_lone.F [] = cfgD 1 ls1 3 := rfl
  have p1 : sp_lone.pre [] = True := by simp only [sp_lone]
  have s1 : sp_Store.F [rawsD low, .int .i64 25] = _ := store_F low 25
  have t1 : sp_Store.pre [rawsD low, .int .i64 25] = True := store_pre hlo (m := 25) (by decide)
  have o1 := okSh_store low (m := 25) (by decide)
  have hfd := (fewN_store low 25).2.2.1
  generalize storeK low 25 = s at *
  have hz : inN 0 := by unfold inN; omega
  have u0 : ∀ c, sp_CShow.F [cfgD 1 ls1 3, .int .i64 0, .fz 4 ([s].map stoC), .fz 1 ([[]].map nsC), .agg (cmC c)] = _ := fun c => cshow_F 1 ls1 3 0 [s] [[]] c
  have w0 : ∀ c : Cm, (c.kind = 2 → 0 ≤ c.label ∧ c.label < 1) → sp_CShow.pre [cfgD 1 ls1 3, .int .i64 0, .fz 4 ([s].map stoC), .fz 1 ([[]].map nsC), .agg (cmC c)] = True := fun c hc => pre1 o1 c hc
  have u1 := u0 ⟨1, 0, 0, 0, false⟩
  have w1 := w0 ⟨1, 0, 0, 0, false⟩ (fun h => by cases h)
  have u3 := u0 ⟨3, 0, 0, 0, false⟩
  have w3 := w0 ⟨3, 0, 0, 0, false⟩ (fun h => by cases h)
  have u2 := fun a n => u0 ⟨2, 0, a, n, false⟩
  have w2 := fun a n => w0 ⟨2, 0, a, n, false⟩ (fun _ => by simp only; omega)
  rw [show_list] at u1
  rw [show_force] at u3
  simp only [show_stat] at u2
  clear u0 w0
  have hok := okD_of o1.1
  have hnl := nl_list s hz hok
  have hll := list_len s hz hok
  have hdb : ∀ d ∈ s.doubts, okTx d.site d.n = true := fun d hd => (okDb_iff.1 (o1.1.doubts d hd)).1
  have hwr : ∀ d ∈ s.doubts, (writesS s (d.site, d.n)).2 = 0 := fun d hd => by
    have hc : callE s (d.site, d.n) 0 = 0 := callE_ok ((okS_iff s).2 o1.1) (hdb d hd) (by omega)
    rw [writesS, if_neg (by simp [hc])]
  have f2 := fun t => writes_F s t
  have p2 := fun t => writes_pre o1.2 t
  have hpb : ∀ t, prepB s t = (decide ((writesS s t).2 = 0) && decide (0 < (writesS s t).1)) := fun t => rfl
  have hel := fun j (h : j < s.doubts.length) => elem_map dbC s.doubts j h
  have hps := fun j (h : j < s.doubts.length) => prepN_succ s s.doubts h
  have hpl := fun j => prepN_le s (s.doubts.take j)
  have hlm : (s.doubts.map dbC).length = s.doubts.length := List.length_map ..
  have hmem : ∀ j (h : j < s.doubts.length), s.doubts[j] ∈ s.doubts := fun j h => List.getElem_mem h
  have htk : s.doubts.take s.doubts.length = s.doubts := List.take_length
  simp only [cfgD, ls1, List.map_cons, List.map_nil, lbc, stoC, nsC, cmC, rawsD] at f1 s1 t1 u1 w1 u2 w2 u3 w3 f2 p2 ⊢
  generalize listS 0 s s.doubts = t at *
  generalize s.items.map itC = ra at *
  generalize s.locks.map lkC = rb at *
  generalize s.over.map txC = rd at *
  generalize hdl : s.doubts = dl at *
  generalize dl.map dbC = rc at *
  have hlc : (rc.length : Int) = dl.length := by omega
  simp (implicitDefEqProofs := false) (maxSteps := 10000000) [ir_reredoskeep_ShowList, h1, x1, f1, p1, h3, x3, s1, t1, h4, x4, u1, w1, hlc]
  refine k_loop (ι := {j : Nat // j ≤ dl.length}) (fun z => ⟨mkTm 101 0 [(3, .own 3 0), (4, .own 4 0), (5, .str t), (6, .int .i64 0), (7, .int .i64 (prepN s (dl.take z.1) : Nat)), (30, .fz 3 rc), (31, .int .i64 dl.length), (32, .int .i64 z.1)], [(3, .box [.int .i64 1, .fz 2 [[.int .i64 0, .int .i64 0]], .int .i64 3]), (4, .box [.fz 3 ra, .fz 6 rb, .fz 3 rc, .fz 2 rd])]⟩)
    (fun z => dl.length - z.1) [] ⟨0, by omega⟩ (by simp (implicitDefEqProofs := false) (maxSteps := 10000000) [prepN]) ?_
  rintro ⟨j, hj⟩ Q hQ
  simp only at hQ
  by_cases h : j < dl.length
  · have hjl : (j : Int) < dl.length := by omega
    have hjr : j < rc.length := by omega
    have he := hel j h
    have hn := hps j h
    have hb := hpl j
    have hlt : (dl.take j).length ≤ j := by rw [List.length_take]; omega
    have hm := hmem j h
    generalize dl[j] = d at he hn hm
    have hw2 := hwr d hm
    have f2' := f2 (d.site, d.n)
    have p2' := p2 (d.site, d.n)
    have u2' := u2 d.site d.n
    have w2' := w2 d.site d.n
    have hpb' := hpb (d.site, d.n)
    rw [hw2] at f2' hpb'
    generalize prepN s (dl.take j) = n at hn hb ⊢
    generalize (writesS s (d.site, d.n)).1 = wn at f2' hpb'
    obtain ⟨d1, d2, d3⟩ := d
    simp only [dbC, txC] at he f2' p2' u2' w2' hpb' hn
    by_cases hw : 0 < wn
    · have e : prepB s (d1, d2) = true := by rw [hpb']; simp [hw]
      rw [e] at u2' hn
      simp only [if_true] at u2' hn
      simp (implicitDefEqProofs := false) (maxSteps := 10000000) [ir_reredoskeep_ShowList_b0, hjl, h, hjr, he, h2, x2, f2', p2', hw, h4, x4, u2', w2', prepW]
      exact ⟨by simp only [inR]; omega, by simp only [inR]; omega, hQ _ [] ⟨j + 1, by omega⟩ (by simp (implicitDefEqProofs := false) (maxSteps := 10000000) [hn]) (by simp only; omega)⟩
    · have e : prepB s (d1, d2) = false := by rw [hpb']; simp [hw]
      rw [e] at u2' hn
      simp only [Bool.false_eq_true, if_false, Nat.add_zero] at u2' hn
      simp (implicitDefEqProofs := false) (maxSteps := 10000000) [ir_reredoskeep_ShowList_b0, hjl, h, hjr, he, h2, x2, f2', p2', hw, h4, x4, u2', w2', unkW]
      exact ⟨by simp only [inR]; omega, hQ _ [] ⟨j + 1, by omega⟩ (by simp (implicitDefEqProofs := false) (maxSteps := 10000000) [hn]) (by simp only; omega)⟩
  have hjn : j = dl.length := by omega
  subst hjn
  rw [htk]
  clear hQ
  have hpn := hpl dl.length
  rw [htk] at hpn
  generalize prepN s dl = n at hnl hpn ⊢
  simp (implicitDefEqProofs := false) (maxSteps := 10000000) [ir_reredoskeep_ShowList_b0, ir_reredoskeep_ShowList_r3]
  refine k_loop (ι := {j : Nat // j ≤ t.length}) (fun z => ⟨mkTm 101 0 [(3, .own 3 0), (4, .own 4 0), (5, .str t), (6, .int .i64 0), (7, .int .i64 ((n : Int) - (nl (t.take z.1) : Nat))), (14, .int .i64 z.1)], [(3, .box [.int .i64 1, .fz 2 [[.int .i64 0, .int .i64 0]], .int .i64 3]), (4, .box [.fz 3 ra, .fz 6 rb, .fz 3 rc, .fz 2 rd])]⟩)
    (fun z => t.length - z.1) [] ⟨0, by omega⟩ (by simp (implicitDefEqProofs := false) (maxSteps := 10000000) [nl]) ?_
  rintro ⟨j, hj⟩ Q hQ
  simp only at hQ
  by_cases h : j < t.length
  · have hjl : (j : Int) < t.length := by omega
    have hs := nl_succ t h
    have hb := nl_le (t.take j)
    have hlt : (t.take j).length ≤ j := by rw [List.length_take]; omega
    have hgd : t.getD j 0 = t[j] := by simp [List.getD, h]
    generalize nl (t.take j) = q at hs hb ⊢
    by_cases hc : t[j] = 10
    · have hs' : nl (t.take (j + 1)) = q + 1 := by rw [hs, hc]; rfl
      simp (implicitDefEqProofs := false) (maxSteps := 10000000) [ir_reredoskeep_ShowList_b1, hjl, h, hc]
      exact ⟨by simp only [inR]; omega, by simp only [inR]; omega, hQ _ [] ⟨j + 1, by omega⟩ (by simp (implicitDefEqProofs := false) (maxSteps := 10000000) [hs']; omega) (by simp only; omega)⟩
    · have hc' : ¬ ((t[j].toNat : Int) = 10) := by
        intro h2; exact hc (UInt8.toNat_inj.1 (by have e : (10 : UInt8).toNat = 10 := rfl; omega))
      have hs' : nl (t.take (j + 1)) = q := by rw [hs]; simp [hc]
      simp (implicitDefEqProofs := false) (maxSteps := 10000000) [ir_reredoskeep_ShowList_b1, hjl, h, hc, hc']
      exact ⟨by simp only [inR]; omega, hQ _ [] ⟨j + 1, by omega⟩ (by simp (implicitDefEqProofs := false) (maxSteps := 10000000) [hs']) (by simp only; omega)⟩
  have hjn : j = t.length := by omega
  subst hjn
  have ht : t.take t.length = t := List.take_length
  rw [ht, hnl]
  simp (implicitDefEqProofs := false) (maxSteps := 10000000) [ir_reredoskeep_ShowList_b1, ir_reredoskeep_ShowList_r2, h4, x4, u3, w3]
end
end Go.Proofs.YtghehknnaifoeaaDoor
