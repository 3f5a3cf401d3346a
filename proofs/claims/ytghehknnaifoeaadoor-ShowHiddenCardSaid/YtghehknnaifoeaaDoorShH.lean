/-
  Of what is not dominated nothing is told: the law's function says so. Conditions: those of its specification's 'pre', and that the functions that are called are what theirs say.
-/
import Derived.Test.YtghehknnaifoeaaDoorShB
set_option linter.unusedVariables false
set_option linter.unusedSimpArgs false
namespace Go.Proofs.YtghehknnaifoeaaDoor
open Go Go.Vcg

def ls2 : List (Int × Int) := [(0, 0), (1, 0)]
def n0 : List Nt := [⟨0, 1, false, false⟩]
def n1 : List Nt := [⟨0, 2, true, false⟩]
def told : List UInt8 := [48, 32, 48, 32, 49, 32, 97, 98, 111, 114, 116, 10, 49, 32, 48, 32, 50, 32, 99, 111, 109, 109, 105, 116, 10]
theorem itoa0 : Lib.itoa 0 = [48] := by have h := itoa_nat 0; rw [dd_lt (by omega)] at h; exact h
theorem itoa1 : Lib.itoa 1 = [49] := by have h := itoa_nat 1; rw [dd_lt (by omega)] at h; exact h
theorem itoa2 : Lib.itoa 2 = [50] := by have h := itoa_nat 2; rw [dd_lt (by omega)] at h; exact h
theorem range2 : List.range 2 = [0, 1] := rfl
theorem told_all (a b : Sto) : showT ls2 1 [a, b] [n0, n1] ⟨4, 0, 0, 0, false⟩ = (told, 0) := by
  simp [showT, ls2, partsS, range2, partS, auditS, n0, n1, noteS, wordsS, itoa0, itoa1, itoa2, told]
theorem hid_list (a b c : Sto) : showT ls2 0 [a, b] [n0, n1] ⟨1, 0, 0, 0, false⟩ = showT ls2 0 [a, c] [n0, []] ⟨1, 0, 0, 0, false⟩ := by
  simp [showT, ls2, partsS, range2, partS]
theorem hid_audit (a b c : Sto) : showT ls2 0 [a, b] [n0, n1] ⟨4, 0, 0, 0, false⟩ = showT ls2 0 [a, c] [n0, []] ⟨4, 0, 0, 0, false⟩ := by
  simp [showT, ls2, partsS, range2, partS]
theorem hid_stat (a b c : Sto) {l : Int} (hl : 0 ≤ l ∧ l < 2) (s n : Int) : showT ls2 0 [a, b] [n0, n1] ⟨2, l, s, n, false⟩ = showT ls2 0 [a, c] [n0, []] ⟨2, l, s, n, false⟩ := by
  rcases (show l = 0 ∨ l = 1 by omega) with rfl | rfl <;> simp [showT, ls2, statS]
theorem e_list (a : List Sto) (nn : List (List Nt)) (l : Nat) : (showT ls2 l a nn ⟨1, 0, 0, 0, false⟩).2 = 0 := by simp [showT]
theorem e_audit (a : List Sto) (nn : List (List Nt)) (l : Nat) : (showT ls2 l a nn ⟨4, 0, 0, 0, false⟩).2 = 0 := by simp [showT]
theorem e_stat (a : List Sto) (nn : List (List Nt)) (l : Nat) (k s n : Int) : (showT ls2 l a nn ⟨2, k, s, n, false⟩).2 = 0 := by simp [showT]
theorem okSh_store (l : List Rw) {m : Nat} (hm : m ≤ 100) : okSh (storeK l m) := ⟨(invK_store l (m := m) (by omega)).ok, fewN_fewS' (fewN_store l m) hm⟩
theorem okNs_0 : okNs n0 := ⟨by simp [n0], by intro x hx; simp only [n0, List.mem_singleton] at hx; subst hx; decide⟩
theorem okNs_1 : okNs n1 := ⟨by simp [n1], by intro x hx; simp only [n1, List.mem_singleton] at hx; subst hx; decide⟩
theorem okNs_nil : okNs [] := ⟨by simp, by simp⟩
theorem plain_ls2 : plainL ls2 := by intro p hp; simp only [ls2, List.mem_cons, List.not_mem_nil, or_false] at hp; rcases hp with rfl | rfl <;> rfl
theorem pre2 {a b : Sto} {x y : List Nt} (l : Nat) (hl : l < 2) (ha : okSh a) (hb : okSh b) (hx : okNs x) (hy : okNs y) (c : Cm) (hc : c.kind = 2 → 0 ≤ c.label ∧ c.label < 2) : sp_CShow.pre [cfgD 1 ls2 3, .int .i64 l, .fz 4 ([a, b].map stoC), .fz 1 ([x, y].map nsC), .agg (cmC c)] = True := by
  refine cshow_pre (by decide) (by decide) hl rfl rfl ?_ ?_ plain_ls2 hc
  · intro s hs; simp only [List.mem_cons, List.not_mem_nil, or_false] at hs; rcases hs with rfl | rfl <;> assumption
  · intro s hs; simp only [List.mem_cons, List.not_mem_nil, or_false] at hs; rcases hs with rfl | rfl <;> assumption
def sp_ShowHidden : Sp := { pre := fun ds => ∃ (low high other : List Rw) (kind l a b : Int), ds = [rawsD low, rawsD high, rawsD other, .int .i64 kind, .int .i64 l, .int .i64 a, .int .i64 b] ∧ okRaws low ∧ okRaws high ∧ okRaws other ∧ inR .i64 kind ∧ inR .i64 l ∧ inR .i64 a ∧ inR .i64 b, F := fun _ => .bool true }
section
variable {T : Tb}
attribute [local simp] k_seq k_block k_skip k_reg k_alt k_cond k_exit k_ret kf_nil kf_seq_n kf_seq_e kf_seq_r kf_blk_n kf_blk_e kf_blk_r kf_lp_n kf_lp_e kf_lp_r kf_cut_n kf_cut_e kf_cut_r mkTm VCops VCalt istep act gd applyE wrapD Opd.ev get_mk set_mk set_mk0 tget16 tset16 tget_0 tset_0 tget_1 tset_1 tget_2 tset_2 tget_3 tset_3 tget_4 tset_4 tget_5 tset_5 tget_6 tset_6 tget_7 tset_7 tget_8 tset_8 tget_9 tset_9 tget_10 tset_10 tget_11 tset_11 tget_12 tset_12 tget_13 tset_13 tget_14 tset_14 tget_15 tset_15 D.un D.gu gus IOp.opds binD fnPost getRes IRes.get oneRes D.out outL D.clos closL D.norow norowL D.lv lvL D.scal scalL D.cells D.cell D.cell' St.lk obPut obDel List.lookup cut pickD splice fillParts fillRows elem_cons newsOf D.pl D.forget forgetL Ob.forget forgetO eqCells sg leD leDL leOb apartK St.le D.keys keysL D.rows rowsL obKeys addKeys reach pos D.ren renL Ob.ren inM outM inObs outObs goneK apartN okNames_eq okNms obNms namesOK_nil namesOK_cons freeOK_nil freeOK_cons D.frz frzL Ob.frz frzO St.frz forgetLs dropObs putObs hcall freeOf keeps baseN shD isShift shMax k_bad VCopsG frz_nil actx actc cnum vwCut St.frzT St.opnT St.clsT D.opn opnL Ob.opn opnO VCou VCcx St.oneS D.objI D.objK scrL D.scr St.opnS St.clsS D.cellS D.fzs fzsL k_mrk k_mrq IOper.gh
set_option maxRecDepth 100000 in
set_option maxHeartbeats 16000000 in
theorem v_ShowHidden (h1 : T.sp n_reredoskeep_two = some sp_two) (h2 : T.sp n_reredoskeep_picked = some sp_picked) (h3 : T.sp n_reredoskeep_Store = some sp_Store) (h4 : T.sp n_console_Show = some sp_CShow) : Verified T ir_reredoskeep_ShowHidden sp_ShowHidden := by
  refine Verified.mk ?_
  rintro ds ⟨low, high, other, kind, l, a, b, rfl, hlo, hhi, hot, hk, hl, ha, hb⟩
  have hF : sp_ShowHidden.F [rawsD low, rawsD high, rawsD other, .int .i64 kind, .int .i64 l, .int .i64 a, .int .i64 b] = .bool true := rfl
  rw [hF]
  have x1 : sp_two.hx = none := rfl
  have x2 : sp_picked.hx = none := rfl
  have x3 : sp_Store.hx = none := rfl
  have x4 : sp_CShow.hx = none := rfl
  have f1 : sp_two.F [.int .i64 0] = cfgD 1 ls2 3 := rfl
  have p1 : sp_two.pre [.int .i64 0] = True := by simp only [sp_two, eq_iff_iff, iff_true]; exact ⟨0, rfl, by simp only [inR]; omega⟩
  have fp := fun (n m : Int) => (show sp_picked.F [.int .i64 n, .int .i64 m] = .int .i64 (pk n m) from rfl)
  have pp := fun (n m : Int) (h : inR .i64 n) (hm : 0 < m) => (show sp_picked.pre [.int .i64 n, .int .i64 m] = True by simp only [sp_picked, eq_iff_iff, iff_true]; exact ⟨n, m, rfl, h, hm⟩)
  have q1 := pp kind 3 hk (by decide)
  have q2 := pp l 2 hl (by decide)
  have q3 := pp a 2 ha (by decide)
  have q4 := pp b 3 hb (by decide)
  have g1 := fp kind 3
  have g2 := fp l 2
  have g3 := fp a 2
  have g4 := fp b 3
  have b1 := pk_bounds kind 3 (by decide)
  have b2 := pk_bounds l 2 (by decide)
  have b3 := pk_bounds b 3 (by decide)
  clear fp pp
  generalize pk kind 3 = k at *
  generalize pk l 2 = lx at *
  generalize pk a 2 = ax at *
  generalize pk b 3 = bx at *
  have s1 : sp_Store.F [rawsD low, .int .i64 20] = _ := store_F low 20
  have s2 : sp_Store.F [rawsD high, .int .i64 20] = _ := store_F high 20
  have s3 : sp_Store.F [rawsD other, .int .i64 20] = _ := store_F other 20
  have t1 : sp_Store.pre [rawsD low, .int .i64 20] = True := store_pre hlo (m := 20) (by decide)
  have t2 : sp_Store.pre [rawsD high, .int .i64 20] = True := store_pre hhi (m := 20) (by decide)
  have t3 : sp_Store.pre [rawsD other, .int .i64 20] = True := store_pre hot (m := 20) (by decide)
  have o1 := okSh_store low (m := 20) (by decide)
  have o2 := okSh_store high (m := 20) (by decide)
  have o3 := okSh_store other (m := 20) (by decide)
  generalize storeK low 20 = sa at *
  generalize storeK high 20 = sb at *
  generalize storeK other 20 = sc at *
  have u3 : sp_CShow.F [cfgD 1 ls2 3, .int .i64 1, .fz 4 ([sa, sb].map stoC), .fz 1 ([n0, n1].map nsC), .agg (cmC ⟨4, 0, 0, 0, false⟩)] = .tup [.str told, .int .i64 0] := by
    have := cshow_F 1 ls2 3 1 [sa, sb] [n0, n1] ⟨4, 0, 0, 0, false⟩
    rw [told_all] at this
    exact this
  have w3 : sp_CShow.pre [cfgD 1 ls2 3, .int .i64 1, .fz 4 ([sa, sb].map stoC), .fz 1 ([n0, n1].map nsC), .agg (cmC ⟨4, 0, 0, 0, false⟩)] = True := pre2 1 (by decide) o1 o2 okNs_0 okNs_1 _ (fun h => by cases h)
  have w1 : ∀ c : Cm, (c.kind = 2 → 0 ≤ c.label ∧ c.label < 2) → sp_CShow.pre [cfgD 1 ls2 3, .int .i64 0, .fz 4 ([sa, sb].map stoC), .fz 1 ([n0, n1].map nsC), .agg (cmC c)] = True := fun c hc => pre2 0 (by decide) o1 o2 okNs_0 okNs_1 c hc
  have w2 : ∀ c : Cm, (c.kind = 2 → 0 ≤ c.label ∧ c.label < 2) → sp_CShow.pre [cfgD 1 ls2 3, .int .i64 0, .fz 4 ([sa, sc].map stoC), .fz 1 ([n0, []].map nsC), .agg (cmC c)] = True := fun c hc => pre2 0 (by decide) o1 o3 okNs_0 okNs_nil c hc
  have u1 : ∀ c, sp_CShow.F [cfgD 1 ls2 3, .int .i64 0, .fz 4 ([sa, sb].map stoC), .fz 1 ([n0, n1].map nsC), .agg (cmC c)] = _ := fun c => cshow_F 1 ls2 3 0 [sa, sb] [n0, n1] c
  have u2 : ∀ c, sp_CShow.F [cfgD 1 ls2 3, .int .i64 0, .fz 4 ([sa, sc].map stoC), .fz 1 ([n0, []].map nsC), .agg (cmC c)] = _ := fun c => cshow_F 1 ls2 3 0 [sa, sc] [n0, []] c
  rcases (show k = 0 ∨ k = 1 ∨ k = 2 by omega) with rfl | rfl | rfl
  · skip
    have v1 := u1 ⟨1, 0, 0, 0, false⟩
    have v2 := u2 ⟨1, 0, 0, 0, false⟩
    have y1 := w1 ⟨1, 0, 0, 0, false⟩ (fun h => by cases h)
    have y2 := w2 ⟨1, 0, 0, 0, false⟩ (fun h => by cases h)
    rw [hid_list sa sb sc, e_list] at v1
    rw [e_list] at v2
    generalize (showT ls2 0 [sa, sc] [n0, []] ⟨1, 0, 0, 0, false⟩).1 = tx at v1 v2
    clear u1 u2 w1 w2
    obtain ⟨a1, a2, a3, a4⟩ := sa
    obtain ⟨c1, c2, c3, c4⟩ := sb
    obtain ⟨d1, d2, d3, d4⟩ := sc
    simp only [cfgD, ls2, List.map_cons, List.map_nil, lbc, stoC, nsC, n0, n1, ntC, cmC, rawsD] at f1 s1 s2 s3 t1 t2 t3 u3 w3 v1 v2 y1 y2 ⊢
    simp (implicitDefEqProofs := false) (maxSteps := 10000000) [ir_reredoskeep_ShowHidden, h1, x1, f1, p1, h2, x2, g1, g2, g3, g4, q1, q2, q3, q4, h3, x3, s1, s2, s3, t1, t2, t3, h4, x4, v1, v2, y1, y2, u3, w3, told]
  · skip
    have v1 := u1 ⟨2, lx, ax, 1 + bx, false⟩
    have v2 := u2 ⟨2, lx, ax, 1 + bx, false⟩
    have y1 := w1 ⟨2, lx, ax, 1 + bx, false⟩ (fun _ => by simp only; omega)
    have y2 := w2 ⟨2, lx, ax, 1 + bx, false⟩ (fun _ => by simp only; omega)
    rw [hid_stat sa sb sc (by omega), e_stat] at v1
    rw [e_stat] at v2
    generalize (showT ls2 0 [sa, sc] [n0, []] ⟨2, lx, ax, 1 + bx, false⟩).1 = tx at v1 v2
    clear u1 u2 w1 w2
    obtain ⟨a1, a2, a3, a4⟩ := sa
    obtain ⟨c1, c2, c3, c4⟩ := sb
    obtain ⟨d1, d2, d3, d4⟩ := sc
    simp only [cfgD, ls2, List.map_cons, List.map_nil, lbc, stoC, nsC, n0, n1, ntC, cmC, rawsD] at f1 s1 s2 s3 t1 t2 t3 u3 w3 v1 v2 y1 y2 ⊢
    simp (implicitDefEqProofs := false) (maxSteps := 10000000) [ir_reredoskeep_ShowHidden, h1, x1, f1, p1, h2, x2, g1, g2, g3, g4, q1, q2, q3, q4, h3, x3, s1, s2, s3, t1, t2, t3, h4, x4, v1, v2, y1, y2, u3, w3, told]
    simp only [inR]; omega
  · skip
    have v1 := u1 ⟨4, 0, 0, 0, false⟩
    have v2 := u2 ⟨4, 0, 0, 0, false⟩
    have y1 := w1 ⟨4, 0, 0, 0, false⟩ (fun h => by cases h)
    have y2 := w2 ⟨4, 0, 0, 0, false⟩ (fun h => by cases h)
    rw [hid_audit sa sb sc, e_audit] at v1
    rw [e_audit] at v2
    generalize (showT ls2 0 [sa, sc] [n0, []] ⟨4, 0, 0, 0, false⟩).1 = tx at v1 v2
    clear u1 u2 w1 w2
    obtain ⟨a1, a2, a3, a4⟩ := sa
    obtain ⟨c1, c2, c3, c4⟩ := sb
    obtain ⟨d1, d2, d3, d4⟩ := sc
    simp only [cfgD, ls2, List.map_cons, List.map_nil, lbc, stoC, nsC, n0, n1, ntC, cmC, rawsD] at f1 s1 s2 s3 t1 t2 t3 u3 w3 v1 v2 y1 y2 ⊢
    simp (implicitDefEqProofs := false) (maxSteps := 10000000) [ir_reredoskeep_ShowHidden, h1, x1, f1, p1, h2, x2, g1, g2, g3, g4, q1, q2, q3, q4, h3, x3, s1, s2, s3, t1, t2, t3, h4, x4, v1, v2, y1, y2, u3, w3, told]
end
end Go.Proofs.YtghehknnaifoeaaDoor
