/-
  Records of raw numbers: what makes them computes what the plain functions beside them say. Conditions: those of each specification's 'pre', and that the functions that are called are what theirs say. (Printed by program.)
-/
import Derived.Test.YtpkabalijooeaaaDoorRcD
set_option linter.unusedVariables false
set_option linter.unusedSimpArgs false
namespace Go.Proofs.YtpkabalijooeaaaDoor
open Go Go.Vcg

def okSL (x : D) : Prop := isCfg x = true ∧ 1 ≤ (cfgOf x).1 ∧ (cfgOf x).1 ≤ 4 ∧ 1 ≤ (cfgOf x).2.1.length ∧ (cfgOf x).2.1.length ≤ 6
def sp_Txn : Sp := { pre := fun ds => ∃ x a b, ds = [x, .int .i64 a, .int .i64 b] ∧ okSL x ∧ inR .i64 a ∧ inR .i64 b, F := fun | [x, .int _ a, .int _ b] => .agg [.int .i64 (pk a (cfgOf x).1), .int .i64 (1 + pk b 6)] | _ => .any }
def bitS (c : Int) (s : Nat) : Bool := decide ((c / 2 ^ s).tmod 2 = 1)
def sitesOf (c : Int) : Nat → List Int
  | 0 => []
  | k + 1 => if bitS c k = true then sitesOf c k ++ [(k : Int)] else sitesOf c k
/-- A record of raw numbers. -/
def mkRec (S : Int) (r : Rw) : Rc :=
  if 1 + pk r.k 6 = 1 then ⟨1 + pk r.k 6, pk r.a S, 1 + pk r.b 6, pk r.c 8, pk r.d 1073741824, pk r.e 9, false, []⟩
  else if 1 + pk r.k 6 = 2 ∨ 1 + pk r.k 6 = 6 then ⟨1 + pk r.k 6, pk r.a S, 1 + pk r.b 6, 0, 0, 0, decide (pk r.c 2 = 1), []⟩
  else if 1 + pk r.k 6 = 3 then ⟨1 + pk r.k 6, pk r.a S, 1 + pk r.b 6, 0, 0, 0, false, sitesOf (pk r.c 16) S.toNat⟩
  else ⟨1 + pk r.k 6, pk r.a S, 1 + pk r.b 6, 0, 0, 0, false, []⟩

theorem length_sitesOf (c : Int) : ∀ k, (sitesOf c k).length ≤ k
  | 0 => by simp [sitesOf]
  | k + 1 => by
    have := length_sitesOf c k
    rw [sitesOf]
    split
    · rw [List.length_append]; simp; omega
    · omega
theorem okUpto_mono {S S' : Int} {l : List Int} {j : Nat} (h : okUpto S l j) (hs : S ≤ S') : okUpto S' l j := fun i hi => by
  obtain ⟨h1, h2, h3⟩ := h i hi
  exact ⟨h1, by omega, h3⟩
theorem okUpto_sitesOf (c : Int) : ∀ k : Nat, okUpto k (sitesOf c k) (sitesOf c k).length
  | 0 => fun i hi => by simp [sitesOf] at hi
  | k + 1 => by
    have ih := okUpto_sitesOf c k
    rw [sitesOf]
    split
    · intro i hi
      rw [List.length_append, List.length_singleton] at hi
      have hk : ((k + 1 : Nat) : Int) = k + 1 := by omega
      rw [hk]
      by_cases he : i < (sitesOf c k).length
      · obtain ⟨h1, h2, h3⟩ := ih i he
        have e1 : (sitesOf c k ++ [(k : Int)]).getD i 0 = (sitesOf c k).getD i 0 := by
          simp [List.getD, List.getElem?_append_left he]
        have e2 : (sitesOf c k ++ [(k : Int)]).getD (i - 1) 0 = (sitesOf c k).getD (i - 1) 0 := by
          simp [List.getD, List.getElem?_append_left (show i - 1 < (sitesOf c k).length by omega)]
        rw [e1, e2]
        exact ⟨h1, by omega, h3⟩
      · have hi' : i = (sitesOf c k).length := by omega
        subst hi'
        have e1 : (sitesOf c k ++ [(k : Int)]).getD (sitesOf c k).length 0 = k := by simp [List.getD]
        rw [e1]
        refine ⟨by omega, by omega, fun h0 => ?_⟩
        have e2 : (sitesOf c k ++ [(k : Int)]).getD ((sitesOf c k).length - 1) 0 = (sitesOf c k).getD ((sitesOf c k).length - 1) 0 := by
          simp [List.getD, List.getElem?_append_left (show (sitesOf c k).length - 1 < (sitesOf c k).length by omega)]
        rw [e2]
        exact (ih ((sitesOf c k).length - 1) (by omega)).2.1
    · exact okUpto_mono ih (by omega)

theorem mkRec_kind (S : Int) (r : Rw) : (mkRec S r).kind = 1 + pk r.k 6 := by
  unfold mkRec
  repeat' split
  all_goals rfl
theorem mkRec_sites (S : Int) (r : Rw) (hS : S ≤ 4) : (mkRec S r).sites.length ≤ 4 := by
  have := length_sitesOf (pk r.c 16) S.toNat
  unfold mkRec
  repeat' split
  all_goals first | (simp; done) | (simp only; omega)
theorem mkRec_nums (S : Int) (r : Rw) (hS : 1 ≤ S) : okNums S (mkRec S r) := by
  have b1 := pk_bounds r.a S (by omega)
  have b2 := pk_bounds r.b 6 (by decide)
  have b3 := pk_bounds r.c 8 (by decide)
  have b4 := pk_bounds r.d 1073741824 (by decide)
  have b5 := pk_bounds r.e 9 (by decide)
  unfold mkRec
  repeat' split
  all_goals
    simp only [okNums, okTxn, okKey, okVal, okAsk, Bool.and_eq_true, decide_eq_true_eq]
    omega
theorem mkRec_upto (S : Int) (r : Rw) (hS : 1 ≤ S) : okUpto S (mkRec S r).sites (mkRec S r).sites.length := by
  have h0 : okUpto S ([] : List Int) 0 := fun i hi => by omega
  unfold mkRec
  repeat' split
  all_goals first
    | exact h0
    | (have := okUpto_sitesOf (pk r.c 16) S.toNat
       have e : ((S.toNat : Nat) : Int) = S := by omega
       rw [e] at this
       exact this)
theorem mkRec_form (S : Int) (r : Rw) : okFormR (mkRec S r) := by
  have b := pk_bounds r.k 6 (by decide)
  have hk : 1 + pk r.k 6 = 1 ∨ 1 + pk r.k 6 = 2 ∨ 1 + pk r.k 6 = 3 ∨ 1 + pk r.k 6 = 4 ∨ 1 + pk r.k 6 = 5 ∨ 1 + pk r.k 6 = 6 := by omega
  rcases hk with h | h | h | h | h | h <;> simp only [okFormR, mkRec, h] <;> simp [rp, rparts]
theorem mkRec_ok (S P : Int) (ls : List (Int × Int)) (r : Rw) (hc : check S ls P = 0) (hS : 1 ≤ S) : chkR S ls P (mkRec S r) = 0 := by
  have b := pk_bounds r.k 6 (by decide)
  have hk := mkRec_kind S r
  rw [chkR, if_neg (by simp [hc]), if_neg (by omega), if_neg (by simpa using mkRec_nums S r hS), if_neg (by simpa using mkRec_upto S r hS), if_neg (by simpa using mkRec_form S r)]
def sp_Record : Sp := { pre := fun ds => ∃ x r, ds = [x, rawD r] ∧ okSL x ∧ okRaw r, F := fun | [x, y] => recD (mkRec (cfgOf x).1 (rawOf y)) | _ => .any }
def recsD (rs : List Rc) : D := .fz 8 (rs.map recC)
def sp_records : Sp := { pre := fun ds => ∃ x rs most, ds = [x, rawsD rs, .int .i64 most] ∧ okSL x ∧ okRaws rs ∧ 0 ≤ most ∧ most ≤ 1000, F := fun | [x, y, .int _ most] => recsD (((rawsOf y).take most.toNat).map (mkRec (cfgOf x).1)) | _ => .any }
theorem twoC_cfg (S P : Int) : D.agg (twoC S P) = cfgD S [(0, 0), (1, 0)] P := rfl
theorem okSL_two {S : Int} (h : 1 ≤ S ∧ S ≤ 4) (P : Int) : okSL (.agg (twoC S P)) := by
  refine ⟨rfl, ?_, ?_, ?_, ?_⟩ <;> simp only [twoC_cfg, cfgOf_cfgD]
  · exact h.1
  · exact h.2
  · decide
  · decide
theorem recs_F (S P : Int) (rs : List Rw) (m : Nat) : sp_records.F [.agg (twoC S P), .fz 6 (rs.map rawC), .int .i64 (m : Int)] = .fz 8 (((rs.take m).map (mkRec S)).map recC) := by
  have e2 : D.fz 6 (rs.map rawC) = rawsD rs := rfl
  rw [e2]
  simp only [sp_records, twoC_cfg, cfgOf_cfgD, rawsOf_rawsD, recsD, Int.toNat_natCast]
theorem recs_pre {S : Int} (h : 1 ≤ S ∧ S ≤ 4) (P : Int) {rs : List Rw} (hr : okRaws rs) {m : Nat} (hm : m ≤ 1000) : sp_records.pre [.agg (twoC S P), .fz 6 (rs.map rawC), .int .i64 (m : Int)] = True := by
  simp only [sp_records, eq_iff_iff, iff_true]; exact ⟨_, rs, m, rfl, okSL_two h P, hr, by omega, by omega⟩
theorem txn_F (S P a b : Int) : sp_Txn.F [.agg (twoC S P), .int .i64 a, .int .i64 b] = .agg [.int .i64 (pk a S), .int .i64 (1 + pk b 6)] := by
  simp only [sp_Txn, twoC_cfg, cfgOf_cfgD]
theorem txn_pre {S : Int} (h : 1 ≤ S ∧ S ≤ 4) (P : Int) {a b : Int} (ha : inR .i64 a) (hb : inR .i64 b) : sp_Txn.pre [.agg (twoC S P), .int .i64 a, .int .i64 b] = True := by
  simp only [sp_Txn, eq_iff_iff, iff_true]; exact ⟨_, a, b, rfl, okSL_two h P, ha, hb⟩
section
variable {T : Tb}
attribute [local simp] k_seq k_block k_skip k_reg k_alt k_cond k_exit k_ret kf_nil kf_seq_n kf_seq_e kf_seq_r kf_blk_n kf_blk_e kf_blk_r kf_lp_n kf_lp_e kf_lp_r kf_cut_n kf_cut_e kf_cut_r mkTm VCops VCalt istep act gd applyE wrapD Opd.ev get_mk set_mk set_mk0 tget16 tset16 tget_0 tset_0 tget_1 tset_1 tget_2 tset_2 tget_3 tset_3 tget_4 tset_4 tget_5 tset_5 tget_6 tset_6 tget_7 tset_7 tget_8 tset_8 tget_9 tset_9 tget_10 tset_10 tget_11 tset_11 tget_12 tset_12 tget_13 tset_13 tget_14 tset_14 tget_15 tset_15 D.un D.gu gus IOp.opds binD fnPost getRes IRes.get oneRes D.out outL D.clos closL D.norow norowL D.lv lvL D.scal scalL D.cells D.cell D.cell' St.lk obPut obDel List.lookup cut pickD splice fillParts fillRows elem_cons newsOf D.pl D.forget forgetL Ob.forget forgetO eqCells sg leD leDL leOb apartK St.le D.keys keysL D.rows rowsL obKeys addKeys reach pos D.ren renL Ob.ren inM outM inObs outObs goneK apartN okNames_eq okNms obNms namesOK_nil namesOK_cons freeOK_nil freeOK_cons D.frz frzL Ob.frz frzO St.frz forgetLs dropObs putObs hcall freeOf keeps baseN shD isShift shMax k_bad VCopsG frz_nil actx actc cnum vwCut St.frzT St.opnT St.clsT D.opn opnL Ob.opn opnO
theorem v_Txn (h1 : T.sp n_reredoskeep_picked = some sp_picked) : Verified T ir_reredoskeep_Txn sp_Txn := by
  refine Verified.mk ?_
  rintro ds ⟨x, a, b, rfl, ⟨hx, q1, q2, q3, q4⟩, ha, hb⟩
  obtain ⟨S, ls, p, rfl⟩ := isCfg_cfgD hx
  simp only [sp_Txn, cfgOf_cfgD] at q1 q2 q3 q4 ⊢
  have b1 := pk_bounds b 6 (by decide)
  simp [ir_reredoskeep_Txn, h1, sp_picked, cfgD, and_assoc, ha, hb]
  simp only [inR]; omega
set_option maxRecDepth 100000 in
set_option maxHeartbeats 4000000 in
theorem v_Record (h1 : T.sp n_reredoskeep_picked = some sp_picked) (h2 : T.sp n_reredoskeep_Txn = some sp_Txn) : Verified T ir_reredoskeep_Record sp_Record := by
  refine Verified.mk ?_
  rintro ds ⟨x, r, rfl, ⟨hx, q1, q2, q3, q4⟩, hr⟩
  obtain ⟨S, ls, p, rfl⟩ := isCfg_cfgD hx
  obtain ⟨k, a, b, c, d, e⟩ := r
  obtain ⟨r1, r2, r3, r4, r5, r6⟩ := hr
  simp only at r1 r2 r3 r4 r5 r6
  have hpre : sp_Txn.pre [.agg [.int .i64 S, .fz 2 (ls.map lbc), .int .i64 p], .int .i64 a, .int .i64 b] = True := by
    simp only [eq_iff_iff, iff_true]
    exact ⟨_, a, b, rfl, ⟨hx, q1, q2, q3, q4⟩, r2, r3⟩
  have hF : sp_Txn.F [.agg [.int .i64 S, .fz 2 (ls.map lbc), .int .i64 p], .int .i64 a, .int .i64 b] = .agg [.int .i64 (pk a S), .int .i64 (1 + pk b 6)] := by simp [sp_Txn, cfgOf]
  have hx2 : sp_Txn.hx = none := rfl
  simp only [sp_Record, cfgOf_cfgD, rawOf_rawD] at q1 q2 q3 q4 ⊢
  have b6 := pk_bounds k 6 (by decide)
  have b16 := pk_bounds c 16 (by decide)
  have hin : inR .i64 (1 + pk k 6) := by simp only [inR]; omega
  have hx0 : sp_picked.hx = none := rfl
  have pp : ∀ n m, inR .i64 n → 0 < m → sp_picked.pre [.int .i64 n, .int .i64 m] = True := fun n m hn hm => by
    simp only [sp_picked, eq_iff_iff, iff_true]; exact ⟨_, _, rfl, hn, hm⟩
  have pF : ∀ n m, sp_picked.F [.int .i64 n, .int .i64 m] = .int .i64 (pk n m) := fun n m => rfl
  have p6 := pp k 6 r1 (by decide)
  have p8 := pp c 8 r4 (by decide)
  have p16 := pp c 16 r4 (by decide)
  have p2 := pp c 2 r4 (by decide)
  have pv := pp d 1073741824 r5 (by decide)
  have p9 := pp e 9 r6 (by decide)
  simp only [mkRec]
  generalize hkd : 1 + pk k 6 = kind at hin ⊢
  by_cases k1 : kind = 1
  · subst k1
    simp (implicitDefEqProofs := false) (maxSteps := 10000000) [ir_reredoskeep_Record, ir_reredoskeep_Record_r1, h1, hpre, hF, hx2, h2, hx0, pF, hkd, hin, p6, p8, pv, p9, cfgD, rawD, rawC, recD, recC]
  by_cases k2 : kind = 2
  · subst k2
    simp (implicitDefEqProofs := false) (maxSteps := 10000000) [ir_reredoskeep_Record, ir_reredoskeep_Record_r1, h1, hpre, hF, hx2, h2, hx0, pF, hkd, hin, p6, p2, cfgD, rawD, rawC, recD, recC]
    rfl
  by_cases k6 : kind = 6
  · subst k6
    simp (implicitDefEqProofs := false) (maxSteps := 10000000) [ir_reredoskeep_Record, ir_reredoskeep_Record_r1, h1, hpre, hF, hx2, h2, hx0, pF, hkd, hin, p6, p2, cfgD, rawD, rawC, recD, recC]
    rfl
  by_cases k3 : kind = 3
  · subst k3
    simp (implicitDefEqProofs := false) (maxSteps := 10000000) [ir_reredoskeep_Record, h1, hpre, hF, hx2, h2, hx0, pF, hkd, hin, p6, p2, cfgD, rawD, rawC, recD, recC]
    clear hpre hF hx2 h2 p6 p8 p2 pv p9
    refine k_loop (ι := {j : Nat // (j : Int) ≤ S}) (fun x => ⟨mkTm 64 0 [(2, .own 2 0), (3, .own 3 0), (4, .own 4 0), (5, .own 5 0), (6, .int .i64 x.1)], [(2, .box [.int .i64 S, .fz 2 (ls.map lbc), .int .i64 p]), (3, .box [.int .i64 k, .int .i64 a, .int .i64 b, .int .i64 c, .int .i64 d, .int .i64 e]), (4, .box [.int .i64 0, .int .i64 0, .int .i64 0, .int .i64 0, .int .i64 0, .int .i64 0, .bool false, .nl 1]), (5, .box [.int .i64 3, .int .i64 (pk a S), .int .i64 (1 + pk b 6), .int .i64 0, .int .i64 0, .int .i64 0, .bool false, .row 200]), (200, .row 1 ((sitesOf (pk c 16) x.1).map ic))]⟩)
      (fun x => S.toNat - x.1) [(200, none)] ⟨0, by omega⟩ (by simp (implicitDefEqProofs := false) [sitesOf]) ?_
    rintro ⟨j, hj⟩ P hP
    have hlen := length_sitesOf (pk c 16) j
    by_cases hjl : (j : Int) < S
    · have hjx : (j : Int) ≤ 63 := by omega
      by_cases hb : bitS (pk c 16) j = true
      · have hb' : (pk c 16 / 2 ^ j).tmod 2 = 1 := by simpa [bitS] using hb
        simp (implicitDefEqProofs := false) (maxSteps := 10000000) [ir_reredoskeep_Record_b0, h1, hx0, pF, p16, hjl, hjx, hb']
        refine ⟨by omega, by simp only [inR]; omega, ?_⟩
        exact hP _ [(200, some 61)] ⟨j + 1, by omega⟩ (by simp (implicitDefEqProofs := false) [sitesOf, hb, ic]) (by simp only; omega)
      · have hb' : ¬ (pk c 16 / 2 ^ j).tmod 2 = 1 := by simpa [bitS] using hb
        simp (implicitDefEqProofs := false) (maxSteps := 10000000) [ir_reredoskeep_Record_b0, h1, hx0, pF, p16, hjl, hjx, hb']
        refine ⟨by simp only [inR]; omega, ?_⟩
        exact hP _ [] ⟨j + 1, by omega⟩ (by simp (implicitDefEqProofs := false) [sitesOf, hb, ic]) (by simp only; omega)
    · have hjS : j = S.toNat := by omega
      have e : S.toNat = j := hjS.symm
      simp (implicitDefEqProofs := false) (maxSteps := 10000000) [ir_reredoskeep_Record_b0, ir_reredoskeep_Record_r1, hjl, e, recD, recC]
  · have hk26 : ¬ (kind = 2 ∨ kind = 6) := by omega
    simp (implicitDefEqProofs := false) (maxSteps := 10000000) [ir_reredoskeep_Record, ir_reredoskeep_Record_r1, h1, hpre, hF, hx2, h2, hx0, pF, hkd, hin, p6, p2, k1, k2, k3, k6, cfgD, rawD, rawC, recD, recC]
set_option maxRecDepth 100000 in
set_option maxHeartbeats 4000000 in
theorem v_records (h1 : T.sp n_reredoskeep_Record = some sp_Record) : Verified T ir_reredoskeep_records sp_records := by
  refine Verified.mk ?_
  rintro ds ⟨x, rs, most, rfl, hok, ⟨hrs, hlen⟩, hm0, hm1⟩
  obtain ⟨S, ls, p, rfl⟩ := isCfg_cfgD hok.1
  simp only [sp_records, cfgOf_cfgD, rawsOf_rawsD]
  have hx : sp_Record.hx = none := rfl
  have hS4 : S ≤ 4 := hok.2.2.1
  simp (implicitDefEqProofs := false) [ir_reredoskeep_records, cfgD, rawsD]
  refine k_loop (ι := {i : Nat // i ≤ rs.length ∧ (i : Int) ≤ most}) (fun x => ⟨mkTm 32 0 [(1, .fz 6 (rs.map rawC)), (2, .int .i64 most), (3, .own 3 0), (7, .row 100), (8, .int .i64 x.1)], [(3, .box [.int .i64 S, .fz 2 (ls.map lbc), .int .i64 p]), (100, .row 8 (((rs.take x.1).map (mkRec S)).map recC))]⟩)
    (fun x => rs.length - x.1) [(100, none)] ⟨0, by omega, by omega⟩ (by simp []) ?_
  rintro ⟨i, hi, him⟩ P hP
  by_cases h : i < rs.length ∧ (i : Int) < most
  · obtain ⟨h, hm⟩ := h
    have hil : (i : Int) < rs.length := by omega
    have hel := elem_map rawC rs i h
    have hokr := hrs _ (List.getElem_mem h)
    have ht : rs.take (i + 1) = rs.take i ++ [rs[i]] := (List.take_append_getElem h).symm
    generalize rs[i] = r at hel hokr ht
    have hpre : sp_Record.pre [.agg [.int .i64 S, .fz 2 (ls.map lbc), .int .i64 p], .agg (rawC r)] = True := by
      simp only [sp_Record, eq_iff_iff, iff_true]; exact ⟨_, r, rfl, hok, hokr⟩
    have hF : sp_Record.F [.agg [.int .i64 S, .fz 2 (ls.map lbc), .int .i64 p], .agg (rawC r)] = .agg (recC (mkRec S r)) := by
      simp [sp_Record, cfgOf, lbL_lbc]; rfl
    have hl : (rs.take i).length ≤ 1000 := by rw [List.length_take]; omega
    have hinv : ((rs.take (i + 1)).map (mkRec S)).map recC = ((rs.take i).map (mkRec S)).map recC ++ [recC (mkRec S r)] := by rw [ht]; simp
    generalize hacc : ((rs.take i).map (mkRec S)).map recC = acc at hinv ⊢
    have hla : acc.length ≤ 1000 := by rw [← hacc]; simpa using hl
    clear hacc ht
    generalize mkRec S r = m at hF hinv
    obtain ⟨kind, site, n, key, value, ask, yes, sites⟩ := m
    obtain ⟨k, a, b, c, d, e⟩ := r
    simp only [recC, rawC] at hF hpre hel hinv
    simp (implicitDefEqProofs := false) [ir_reredoskeep_records_b0, hil, hm, h, hel, h1, hx, hpre, hF]
    refine ⟨⟨by omega, by omega⟩, by simp only [inR]; omega, hP _ [(100, some 30)] ⟨i + 1, by omega, by omega⟩ ?_ (by simp only; omega)⟩
    simp only [hinv]
    simp (implicitDefEqProofs := false) []
  · have hd : rs.take most.toNat = rs.take i := by
      by_cases hc : i < rs.length
      · have : most.toNat = i := by omega
        rw [this]
      · rw [List.take_of_length_le (by omega), List.take_of_length_le (by omega)]
    have hcond : (i : Int) < rs.length → ¬ (i : Int) < most := fun q => by omega
    have hd2 : recsD ((rs.take most.toNat).map (mkRec S)) = .fz 8 (((rs.take i).map (mkRec S)).map recC) := by rw [hd]; rfl
    rw [← List.map_take, hd2]
    simp only
    generalize ((rs.take i).map (mkRec S)).map recC = acc
    by_cases hc : (i : Int) < rs.length
    · have := hcond hc
      simp (implicitDefEqProofs := false) [ir_reredoskeep_records_b0, ir_reredoskeep_records_r1, hc, this, recsD]
    · simp (implicitDefEqProofs := false) [ir_reredoskeep_records_b0, ir_reredoskeep_records_r1, hc, recsD]

end
end Go.Proofs.YtpkabalijooeaaaDoor
