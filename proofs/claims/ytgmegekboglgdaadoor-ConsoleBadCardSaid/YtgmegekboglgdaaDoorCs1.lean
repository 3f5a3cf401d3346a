/-
  What an operator types is read: taking words, numbers, the commands; the digits of a number. Conditions: those of each specification's 'pre', and that the functions that are called are what theirs say.
-/
import Derived.Test.YtgmegekboglgdaaDoorCs0
import Derived.Test.YtgmegekboglgdaaDoorSt0
set_option linter.unusedVariables false
set_option linter.unusedSimpArgs false
namespace Go.Proofs.YtgmegekboglgdaaDoor
open Go Go.Vcg

/-! ### The library's functions, as they are met here -/
def atoiOk (s : List UInt8) : Bool := match Lib.atoiAll s with | .ok _ => true | _ => false
def atoiV (s : List UInt8) : Int := match Lib.atoiAll s with | .ok n => n | .range => Lib.atoiSat s | _ => 0
def sp_Atoi : Sp := { pre := fun ds => ∃ s : List UInt8, ds = [.str s] ∧ s.length ≤ 1000000, F := fun | [.str s] => .tup [.int .i64 (atoiV s), .err (some (atoiOk s))] | _ => .any }
def sp_Itoa : Sp := { pre := fun ds => ∃ n : Int, ds = [.int .i64 n] ∧ inR .i64 n, F := fun | [.int _ n] => .str (Lib.itoa n) | _ => .any }
def wc (w : List UInt8) : List D := [.str w]
def sp_Split : Sp := { pre := fun ds => ∃ s c, ds = [.str s, .str [c]] ∧ s.length ≤ 1000000, F := fun | [.str s, .str c] => .fz 1 ((Lib.split s c).map wc) | _ => .any }
theorem atoi_F (s : List UInt8) : sp_Atoi.F [.str s] = .tup [.int .i64 (atoiV s), .err (some (atoiOk s))] := rfl
theorem atoi_pre {s : List UInt8} (h : s.length ≤ 1000000) : sp_Atoi.pre [.str s] = True := by
  simp only [sp_Atoi, eq_iff_iff, iff_true]; exact ⟨s, rfl, h⟩
theorem itoa_F (n : Int) : sp_Itoa.F [.int .i64 n] = .str (Lib.itoa n) := rfl
theorem itoa_pre {n : Int} (h : inR .i64 n) : sp_Itoa.pre [.int .i64 n] = True := by
  simp only [sp_Itoa, eq_iff_iff, iff_true]; exact ⟨n, rfl, h⟩
theorem split_F (s : List UInt8) (c : UInt8) : sp_Split.F [.str s, .str [c]] = .fz 1 ((Lib.split s [c]).map wc) := rfl
theorem split_pre {s : List UInt8} {c : UInt8} (h : s.length ≤ 1000000) : sp_Split.pre [.str s, .str [c]] = True := by
  simp only [sp_Split, eq_iff_iff, iff_true]; exact ⟨s, c, rfl, h⟩
theorem atoiV_inR (s : List UInt8) : inR .i64 (atoiV s) := by
  unfold atoiV
  simp only [inR]
  split
  · rename_i n h
    unfold Lib.atoiAll at h
    split at h
    · cases h
    · simp only at h
      split at h
      · cases h
      · cases h
      · split at h
        · cases h
        · split at h
          · cases h
          · simp only [Lib.NumEnd.ok.injEq] at h
            subst h
            split <;> omega
  · unfold Lib.atoiSat; split <;> omega
  · omega

/-! ### Words one behind the other -/
def nxtW : List (List UInt8) → Bool → List UInt8 × List (List UInt8) × Bool
  | [], _ => ([], [], true)
  | w :: r, b => (w, r, b)
def wOf : List D → List UInt8
  | [.str s] => s
  | _ => []
def wsOf : D → List (List UInt8)
  | .fz _ es => es.map wOf
  | _ => []
theorem ws_of (ws : List (List UInt8)) : wsOf (.fz 1 (ws.map wc)) = ws := by
  have : wOf ∘ wc = id := rfl
  simp [wsOf, this]
def hs_next : HSp := {
  pre := fun ds ob => ∃ (ws : List (List UInt8)) (b : Bool), ds = [.own 1000000000 0] ∧ ob = [(1000000000, .box [.fz 1 (ws.map wc), .bool b])]
  F := fun _ ob => match ob with
    | [(_, .box [x, .bool b])] => (.str (nxtW (wsOf x) b).1, [(1000000000, .box [.fz 1 ((nxtW (wsOf x) b).2.1.map wc), .bool (nxtW (wsOf x) b).2.2])])
    | _ => (.any, []) }
def sp_next : Sp := { pre := fun _ => True, F := fun _ => .any, hx := some hs_next }
theorem next_pre (ws : List (List UInt8)) (b : Bool) : hs_next.pre [.own 1000000000 0] [(1000000000, .box [.fz 1 (ws.map wc), .bool b])] = True := by
  simp only [hs_next, eq_iff_iff, iff_true]; refine ⟨ws, b, ?_, ?_⟩ <;> first | rfl | trivial
theorem next_F (ws : List (List UInt8)) (b : Bool) : hs_next.F [.own 1000000000 0] [(1000000000, .box [.fz 1 (ws.map wc), .bool b])] = (.str (nxtW ws b).1, [(1000000000, .box [.fz 1 ((nxtW ws b).2.1.map wc), .bool (nxtW ws b).2.2])]) := by
  simp only [hs_next, ws_of]
/-- A number that is as it is written, up to some number. -/
def numOk (most : Int) (s : List UInt8) : Option Int := if atoiOk s = true ∧ Lib.itoa (atoiV s) = s ∧ 0 ≤ atoiV s ∧ atoiV s ≤ most then some (atoiV s) else none
def numW (most : Int) (ws : List (List UInt8)) (b : Bool) : Int × List (List UInt8) × Bool :=
  match numOk most (nxtW ws b).1 with
  | some n => (n, (nxtW ws b).2.1, (nxtW ws b).2.2)
  | none => (0, (nxtW ws b).2.1, true)
def hs_num : HSp := {
  pre := fun ds ob => ∃ (ws : List (List UInt8)) (b : Bool) (m : Int), ds = [.own 1000000000 0, .int .i64 m] ∧ ob = [(1000000000, .box [.fz 1 (ws.map wc), .bool b])] ∧ ∀ w ∈ ws, w.length ≤ 1000000
  F := fun ds ob => match ds, ob with
    | [_, .int _ m], [(_, .box [x, .bool b])] => (.int .i64 (numW m (wsOf x) b).1, [(1000000000, .box [.fz 1 ((numW m (wsOf x) b).2.1.map wc), .bool (numW m (wsOf x) b).2.2])])
    | _, _ => (.any, []) }
def sp_num : Sp := { pre := fun _ => True, F := fun _ => .any, hx := some hs_num }
theorem num_pre (m : Int) {ws : List (List UInt8)} (b : Bool) (h : ∀ w ∈ ws, w.length ≤ 1000000) : hs_num.pre [.own 1000000000 0, .int .i64 m] [(1000000000, .box [.fz 1 (ws.map wc), .bool b])] = True := by
  simp only [hs_num, eq_iff_iff, iff_true]; refine ⟨ws, b, m, ?_, ?_, h⟩ <;> first | rfl | trivial
theorem num_F (m : Int) (ws : List (List UInt8)) (b : Bool) : hs_num.F [.own 1000000000 0, .int .i64 m] [(1000000000, .box [.fz 1 (ws.map wc), .bool b])] = (.int .i64 (numW m ws b).1, [(1000000000, .box [.fz 1 ((numW m ws b).2.1.map wc), .bool (numW m ws b).2.2])]) := by
  simp only [hs_num, ws_of]
theorem nxtW_len {ws : List (List UInt8)} {b : Bool} (h : ∀ w ∈ ws, w.length ≤ 1000000) : (nxtW ws b).1.length ≤ 1000000 := by
  cases ws with
  | nil => simp [nxtW]
  | cons w r => exact h w (by simp)
theorem nxtW_tl {ws : List (List UInt8)} {b : Bool} (h : ∀ w ∈ ws, w.length ≤ 1000000) : ∀ w ∈ (nxtW ws b).2.1, w.length ≤ 1000000 := by
  cases ws with
  | nil => simp [nxtW]
  | cons w r => exact fun x hx => h x (by simp only [nxtW] at hx; simp [hx])
theorem numW_tl {ws : List (List UInt8)} {b : Bool} {m : Int} (h : ∀ w ∈ ws, w.length ≤ 1000000) : ∀ w ∈ (numW m ws b).2.1, w.length ≤ 1000000 := by
  unfold numW
  split <;> exact nxtW_tl h

/-! ### Digits -/
def sp_dec (k : Nat) : Sp := { pre := fun ds => ∃ n : Nat, ds = [.int .i64 n] ∧ n < k ∧ n ≤ 9223372036854775807, F := fun | [.int _ n] => .str (Lib.decDigits n.toNat) | _ => .any }
theorem dec_F (k : Nat) (n : Nat) : (sp_dec k).F [.int .i64 n] = .str (Lib.decDigits n) := rfl
theorem dec_pre {k n : Nat} (h : n < k) (h2 : n ≤ 9223372036854775807) : (sp_dec k).pre [.int .i64 n] = True := by
  simp only [sp_dec, eq_iff_iff, iff_true]; exact ⟨n, rfl, h, h2⟩
theorem dd_len (u : Nat) : ∀ n, u ≤ n → (Lib.decDigits u).length ≤ u + 1 := by
  intro n
  induction n generalizing u with
  | zero => intro h; rw [dd_lt (by omega)]; simp
  | succ n ih =>
    intro h
    by_cases h1 : u < 10
    · rw [dd_lt h1]; simp
    · rw [dd_ge h1]
      have := ih (u / 10) (by omega)
      simp only [List.length_append, List.length_cons, List.length_nil]
      omega

section
variable {T : Tb}
attribute [local simp] k_seq k_block k_skip k_reg k_alt k_cond k_exit k_ret kf_nil kf_seq_n kf_seq_e kf_seq_r kf_blk_n kf_blk_e kf_blk_r kf_lp_n kf_lp_e kf_lp_r kf_cut_n kf_cut_e kf_cut_r mkTm VCops VCalt istep act gd applyE wrapD Opd.ev get_mk set_mk set_mk0 tget16 tset16 tget_0 tset_0 tget_1 tset_1 tget_2 tset_2 tget_3 tset_3 tget_4 tset_4 tget_5 tset_5 tget_6 tset_6 tget_7 tset_7 tget_8 tset_8 tget_9 tset_9 tget_10 tset_10 tget_11 tset_11 tget_12 tset_12 tget_13 tset_13 tget_14 tset_14 tget_15 tset_15 D.un D.gu gus IOp.opds binD fnPost getRes IRes.get oneRes D.out outL D.clos closL D.norow norowL D.lv lvL D.scal scalL D.cells D.cell D.cell' St.lk obPut obDel List.lookup cut pickD splice fillParts fillRows elem_cons newsOf D.pl D.forget forgetL Ob.forget forgetO eqCells sg leD leDL leOb apartK St.le D.keys keysL D.rows rowsL obKeys addKeys reach pos D.ren renL Ob.ren inM outM inObs outObs goneK apartN okNames_eq okNms obNms namesOK_nil namesOK_cons freeOK_nil freeOK_cons D.frz frzL Ob.frz frzO St.frz forgetLs dropObs putObs hcall freeOf keeps baseN shD isShift shMax k_bad VCopsG frz_nil actx actc cnum vwCut St.frzT St.opnT St.clsT D.opn opnL Ob.opn opnO VCou VCcx St.oneS D.objI D.objK scrL D.scr St.opnS St.clsS D.cellS D.fzs fzsL k_mrk k_mrq IOper.gh
set_option maxRecDepth 100000 in
theorem v_next : Verified T ir_console_taker_next sp_next := by
  refine Verified.mkx (hs := hs_next) rfl ?_
  rintro ds ob ⟨ws, b, rfl, rfl⟩ R hR
  rw [next_F] at hR
  cases ws with
  | nil =>
    simp only [nxtW] at hR
    simp (implicitDefEqProofs := false) [ir_console_taker_next]
    exact hR _ [] (by simp (implicitDefEqProofs := false))
  | cons w r =>
    simp only [nxtW] at hR
    have h0 : ¬ (r.length : Int) + 1 = 0 := by omega
    have he : elem (wc w :: r.map wc) 0 = [.str w] := rfl
    simp (implicitDefEqProofs := false) [ir_console_taker_next, h0, he]
    exact ⟨by omega, hR _ [] (by simp (implicitDefEqProofs := false))⟩
set_option maxRecDepth 100000 in
theorem v_num (h1 : T.sp n_console_taker_next = some sp_next) (h2 : T.sp n_strconv_Atoi = some sp_Atoi) (h3 : T.sp n_strconv_Itoa = some sp_Itoa) : Verified T ir_console_taker_number sp_num := by
  refine Verified.mkx (hs := hs_num) rfl ?_
  rintro ds ob ⟨ws, b, m, rfl, rfl, hw⟩ R hR
  rw [num_F] at hR
  have x1 : sp_next.hx = some hs_next := rfl
  have x2 : sp_Atoi.hx = none := rfl
  have x3 : sp_Itoa.hx = none := rfl
  have f1 := next_F ws b
  have p1 := next_pre ws b
  have hl := nxtW_len (b := b) hw
  unfold numW at hR
  generalize hq : nxtW ws b = q at f1 hR hl
  obtain ⟨s, r, b2⟩ := q
  simp only at f1 hR hl
  have f2 := atoi_F s
  have p2 := atoi_pre hl
  have f3 := itoa_F (atoiV s)
  have p3 := itoa_pre (atoiV_inR s)
  unfold numOk at hR
  generalize atoiV s = v at f2 f3 p3 hR
  cases ho : atoiOk s
  · rw [ho] at f2
    simp only [ho, Bool.false_eq_true, false_and, if_false] at hR
    simp (implicitDefEqProofs := false) [ir_console_taker_number, h1, x1, f1, p1, h2, x2, f2, p2, h3, x3, f3, p3]
    exact hR _ [] (by simp (implicitDefEqProofs := false))
  · rw [ho] at f2
    simp only [ho, true_and] at hR
    by_cases e1 : Lib.itoa v = s
    · by_cases e2 : v < 0
      · rw [if_neg (by omega)] at hR
        simp (implicitDefEqProofs := false) [ir_console_taker_number, h1, x1, f1, p1, h2, x2, f2, p2, h3, x3, f3, p3, e1, e2]
        exact hR _ [] (by simp (implicitDefEqProofs := false))
      · by_cases e3 : m < v
        · rw [if_neg (by omega)] at hR
          simp (implicitDefEqProofs := false) [ir_console_taker_number, h1, x1, f1, p1, h2, x2, f2, p2, h3, x3, f3, p3, e1, e2, e3]
          exact hR _ [] (by simp (implicitDefEqProofs := false))
        · rw [if_pos ⟨e1, by omega, by omega⟩] at hR
          simp (implicitDefEqProofs := false) [ir_console_taker_number, h1, x1, f1, p1, h2, x2, f2, p2, h3, x3, f3, p3, e1, e2, e3]
          exact hR _ [] (by simp (implicitDefEqProofs := false))
    · rw [if_neg (fun h => e1 h.1)] at hR
      simp (implicitDefEqProofs := false) [ir_console_taker_number, h1, x1, f1, p1, h2, x2, f2, p2, h3, x3, f3, p3, e1]
      exact hR _ [] (by simp (implicitDefEqProofs := false))
set_option maxRecDepth 100000 in
/-- The digits of numbers below 10 times as many. -/
theorem v_dec (k : Nat) (hk : 1 ≤ k ∧ k ≤ 100000000) (h1 : T.sp n_reredoskeep_dec = some (sp_dec k)) : Verified T ir_reredoskeep_dec (sp_dec (k * 10)) := by
  refine Verified.mk ?_
  rintro ds ⟨n, rfl, hn, hn2⟩
  rw [dec_F]
  have x1 : (sp_dec k).hx = none := rfl
  have hb : ∀ z : Int, bytesOf [[.int .u8 z]] = some [UInt8.ofNat z.toNat] := fun _ => rfl
  by_cases h : n < 10
  · have h' : (n : Int) < 10 := by omega
    rw [dd_lt h]
    have e1 : (48 + (n : Int)) % 256 = 48 + n := by omega
    have e2 : (48 + (n : Int)).toNat = 48 + n := by omega
    simp (implicitDefEqProofs := false) [ir_reredoskeep_dec, h', e1, hb, e2]
    simp only [inR]; omega
  · have h' : ¬ (n : Int) < 10 := by omega
    rw [dd_ge h]
    have hl := dd_len (n / 10) _ (Nat.le_refl _)
    have hm : n / 10 < k := by omega
    have hm2 : n / 10 ≤ n := by omega
    have hd : n % 10 < 10 := by omega
    have e0 : (n : Int).tdiv 10 = ((n / 10 : Nat) : Int) := by rw [Int.tdiv_eq_ediv_of_nonneg (by omega)]; omega
    have e1 : (n : Int).tmod 10 = ((n % 10 : Nat) : Int) := by rw [Int.tmod_eq_emod_of_nonneg (by omega)]; omega
    have e0' : (n : Int) / 10 = ((n / 10 : Nat) : Int) := by omega
    have e1' : (n : Int) % 10 = ((n % 10 : Nat) : Int) := by omega
    generalize n / 10 = m at hl hm hm2 e0 e0' ⊢
    generalize n % 10 = d at hd e1 e1' ⊢
    have f1 := dec_F k m
    have p1 := dec_pre (k := k) (n := m) hm (by omega)
    have e2 : (48 + (d : Int)) % 256 = 48 + d := by omega
    have e3 : (48 + (d : Int)).toNat = 48 + d := by omega
    simp (implicitDefEqProofs := false) [ir_reredoskeep_dec, h', e0, e1, e0', e1', e2, e3, hb, h1, x1, f1, p1]
    exact ⟨by simp only [inR]; omega, by simp only [inR]; omega, by omega⟩
set_option maxRecDepth 100000 in
theorem v_dec0 : Verified T ir_reredoskeep_dec (sp_dec 10) := by
  refine Verified.mk ?_
  rintro ds ⟨n, rfl, hn, hn2⟩
  rw [dec_F]
  have hb : ∀ z : Int, bytesOf [[.int .u8 z]] = some [UInt8.ofNat z.toNat] := fun _ => rfl
  have h' : (n : Int) < 10 := by omega
  rw [dd_lt hn]
  have e1 : (48 + (n : Int)) % 256 = 48 + n := by omega
  have e2 : (48 + (n : Int)).toNat = 48 + n := by omega
  simp (implicitDefEqProofs := false) [ir_reredoskeep_dec, h', e1, hb, e2]
  simp only [inR]; omega
end
end Go.Proofs.YtgmegekboglgdaaDoor
