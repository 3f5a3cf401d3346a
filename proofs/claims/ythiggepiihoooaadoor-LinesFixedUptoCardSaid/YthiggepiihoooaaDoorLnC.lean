/-
  Lines are read: taking words, numbers, a text, a call; the place of a word. Conditions: those of each specification's 'pre', and that the functions that are called are what theirs say.
-/
import Derived.Test.YthiggepiihoooaaDoorLnR
import Derived.Test.YthiggepiihoooaaDoorLnA
set_option linter.unusedVariables false
set_option linter.unusedSimpArgs false
namespace Go.Proofs.YthiggepiihoooaaDoor
open Go Go.Vcg

def wOf : List D → List UInt8
  | [.str s] => s
  | _ => []
def wsOf : D → List (List UInt8)
  | .fz _ es => es.map wOf
  | _ => []
theorem ws_of (ws : List (List UInt8)) : wsOf (.fz 1 (ws.map wc)) = ws := by
  have : wOf ∘ wc = id := rfl
  simp [wsOf, this]
/-- A taker. -/
def tkO (ws : List (List UInt8)) (b : Bool) : List (Nat × Ob) := [(1000000000, .box [.fz 1 (ws.map wc), .bool b])]
def okWs (ws : List (List UInt8)) : Prop := ∀ w ∈ ws, w.length ≤ 4000000
/-- The contract of a function that takes of a taker. -/
def hs_tk (f : List (List UInt8) → Bool → D × List (List UInt8) × Bool) : HSp := {
  pre := fun ds ob => ∃ (ws : List (List UInt8)) (b : Bool), ds = [.own 1000000000 0] ∧ ob = tkO ws b ∧ okWs ws
  F := fun _ ob => match ob with
    | [(_, .box [x, .bool b])] => ((f (wsOf x) b).1, [(1000000000, .box [.fz 1 ((f (wsOf x) b).2.1.map wc), .bool (f (wsOf x) b).2.2])])
    | _ => (.any, []) }
def sp_tk (f : List (List UInt8) → Bool → D × List (List UInt8) × Bool) : Sp := { pre := fun _ => True, F := fun _ => .any, hx := some (hs_tk f) }
theorem tk_pre (f : List (List UInt8) → Bool → D × List (List UInt8) × Bool) {ws : List (List UInt8)} (b : Bool) (h : okWs ws) : (hs_tk f).pre [.own 1000000000 0] [(1000000000, .box [.fz 1 (ws.map wc), .bool b])] = True := by
  simp only [hs_tk, eq_iff_iff, iff_true]; refine ⟨ws, b, ?_, ?_, h⟩ <;> first | rfl | trivial
theorem tk_F (f : List (List UInt8) → Bool → D × List (List UInt8) × Bool) (ws : List (List UInt8)) (b : Bool) : (hs_tk f).F [.own 1000000000 0] [(1000000000, .box [.fz 1 (ws.map wc), .bool b])] = ((f ws b).1, [(1000000000, .box [.fz 1 ((f ws b).2.1.map wc), .bool (f ws b).2.2])]) := by
  simp only [hs_tk, ws_of]
def tkNext (ws : List (List UInt8)) (b : Bool) : D × List (List UInt8) × Bool := (.str (nxtW ws b).1, (nxtW ws b).2)
def tkNum (ws : List (List UInt8)) (b : Bool) : D × List (List UInt8) × Bool := (.int .i64 (numL ws b).1, (numL ws b).2)
def tkText (ws : List (List UInt8)) (b : Bool) : D × List (List UInt8) × Bool := (.str (textL ws b).1, (textL ws b).2)
def tkCall (ws : List (List UInt8)) (b : Bool) : D × List (List UInt8) × Bool := (.agg (clC (callL ws b).1), (callL ws b).2)
def sp_next : Sp := sp_tk tkNext
def sp_num : Sp := sp_tk tkNum
def sp_text : Sp := sp_tk tkText
def sp_tcall : Sp := sp_tk tkCall
theorem next_pre {ws : List (List UInt8)} (b : Bool) (h : okWs ws) : (hs_tk tkNext).pre [.own 1000000000 0] [(1000000000, .box [.fz 1 (ws.map wc), .bool b])] = True := tk_pre _ b h
theorem next_F (ws : List (List UInt8)) (b : Bool) : (hs_tk tkNext).F [.own 1000000000 0] [(1000000000, .box [.fz 1 (ws.map wc), .bool b])] = (.str (nxtW ws b).1, [(1000000000, .box [.fz 1 ((nxtW ws b).2.1.map wc), .bool (nxtW ws b).2.2])]) := tk_F tkNext ws b
theorem num_pre {ws : List (List UInt8)} (b : Bool) (h : okWs ws) : (hs_tk tkNum).pre [.own 1000000000 0] [(1000000000, .box [.fz 1 (ws.map wc), .bool b])] = True := tk_pre _ b h
theorem num_F (ws : List (List UInt8)) (b : Bool) : (hs_tk tkNum).F [.own 1000000000 0] [(1000000000, .box [.fz 1 (ws.map wc), .bool b])] = (.int .i64 (numL ws b).1, [(1000000000, .box [.fz 1 ((numL ws b).2.1.map wc), .bool (numL ws b).2.2])]) := tk_F tkNum ws b
theorem text_pre {ws : List (List UInt8)} (b : Bool) (h : okWs ws) : (hs_tk tkText).pre [.own 1000000000 0] [(1000000000, .box [.fz 1 (ws.map wc), .bool b])] = True := tk_pre _ b h
theorem text_F (ws : List (List UInt8)) (b : Bool) : (hs_tk tkText).F [.own 1000000000 0] [(1000000000, .box [.fz 1 (ws.map wc), .bool b])] = (.str (textL ws b).1, [(1000000000, .box [.fz 1 ((textL ws b).2.1.map wc), .bool (textL ws b).2.2])]) := tk_F tkText ws b
theorem tcall_pre {ws : List (List UInt8)} (b : Bool) (h : okWs ws) : (hs_tk tkCall).pre [.own 1000000000 0] [(1000000000, .box [.fz 1 (ws.map wc), .bool b])] = True := tk_pre _ b h
theorem tcall_F (ws : List (List UInt8)) (b : Bool) : (hs_tk tkCall).F [.own 1000000000 0] [(1000000000, .box [.fz 1 (ws.map wc), .bool b])] = (.agg (clC (callL ws b).1), [(1000000000, .box [.fz 1 ((callL ws b).2.1.map wc), .bool (callL ws b).2.2])]) := tk_F tkCall ws b
theorem nxtW_len {ws : List (List UInt8)} {b : Bool} (h : okWs ws) : (nxtW ws b).1.length ≤ 4000000 := by
  cases ws with
  | nil => simp [nxtW]
  | cons w r => exact h w (by simp)
theorem nxtW_tl {ws : List (List UInt8)} {b : Bool} (h : okWs ws) : okWs (nxtW ws b).2.1 := by
  cases ws with
  | nil => simp [nxtW, okWs]
  | cons w r => exact fun x hx => h x (by simp only [nxtW] at hx; simp [hx])
theorem numL_tl {ws : List (List UInt8)} {b : Bool} (h : okWs ws) : okWs (numL ws b).2.1 := nxtW_tl (b := b) h
def sp_IndexW : Sp := { pre := fun ds => ∃ (l : List (List UInt8)) (w : List UInt8), ds = [.fz 1 (l.map wc), .str w] ∧ l.length ≤ 4000000, F := fun | [x, .str w] => .int .i64 (idxW (wsOf x) w) | _ => .any }
theorem indexW_F (l : List (List UInt8)) (w : List UInt8) : sp_IndexW.F [.fz 1 (l.map wc), .str w] = .int .i64 (idxW l w) := by simp only [sp_IndexW, ws_of]
theorem indexW_pre {l : List (List UInt8)} (w : List UInt8) (h : l.length ≤ 4000000) : sp_IndexW.pre [.fz 1 (l.map wc), .str w] = True := by
  simp only [sp_IndexW, eq_iff_iff, iff_true]; exact ⟨l, w, rfl, h⟩
def sp_IndexB : Sp := { pre := fun ds => ∃ (s : List UInt8) (c : Int), ds = [.str s, .int .u8 c] ∧ s.length ≤ 4000000, F := fun | [.str s, .int _ c] => .int .i64 (Lib.indexByte s (UInt8.ofNat c.toNat)) | _ => .any }
theorem indexB_F (s : List UInt8) (c : UInt8) : sp_IndexB.F [.str s, .int .u8 ((c.toNat : Nat) : Int)] = .int .i64 (Lib.indexByte s c) := by simp [sp_IndexB]
theorem indexB_pre {s : List UInt8} (c : Int) (h : s.length ≤ 4000000) : sp_IndexB.pre [.str s, .int .u8 c] = True := by
  simp only [sp_IndexB, eq_iff_iff, iff_true]; exact ⟨s, c, rfl, h⟩
theorem idxW_bounds (l : List (List UInt8)) (w : List UInt8) : -1 ≤ idxW l w ∧ idxW l w < l.length := by
  unfold idxW idxOf
  split
  · rename_i ha
    have hj : l.findIdx (fun x => decide (w = x)) < l.length := List.findIdx_lt_length.2 (by simpa using ha)
    omega
  · omega
theorem hexI : ∀ a b : Fin 16, bitsI .or .i64 ((a.1 : Int) * 16) (b.1 : Int) = (a.1 : Int) * 16 + b.1 := by decide +kernel
theorem digV_lt (c : UInt8) : -1 ≤ digV c ∧ digV c < 16 := by
  have : ∀ n : Fin 256, -1 ≤ digV (UInt8.ofNat n.1) ∧ digV (UInt8.ofNat n.1) < 16 := by decide +kernel
  have h2 := this ⟨c.toNat, c.toNat_lt⟩
  simp only [UInt8.ofNat_toNat] at h2
  exact h2
theorem hexI' (a b : Int) (h : 0 ≤ a ∧ a < 16) (h2 : 0 ≤ b ∧ b < 16) : bitsI .or .i64 (a * 16) b = a * 16 + b := by
  have := hexI ⟨a.toNat, by omega⟩ ⟨b.toNat, by omega⟩
  simp only at this
  rw [Int.toNat_of_nonneg h.1, Int.toNat_of_nonneg h2.1] at this
  exact this

section
variable {T : Tb}
attribute [local simp] k_seq k_block k_skip k_reg k_alt k_cond k_exit k_ret kf_nil kf_seq_n kf_seq_e kf_seq_r kf_blk_n kf_blk_e kf_blk_r kf_lp_n kf_lp_e kf_lp_r kf_cut_n kf_cut_e kf_cut_r mkTm VCops VCalt istep act gd applyE wrapD Opd.ev get_mk set_mk set_mk0 tget16 tset16 tget_0 tset_0 tget_1 tset_1 tget_2 tset_2 tget_3 tset_3 tget_4 tset_4 tget_5 tset_5 tget_6 tset_6 tget_7 tset_7 tget_8 tset_8 tget_9 tset_9 tget_10 tset_10 tget_11 tset_11 tget_12 tset_12 tget_13 tset_13 tget_14 tset_14 tget_15 tset_15 D.un D.gu gus IOp.opds binD fnPost getRes IRes.get oneRes D.out outL D.clos closL D.norow norowL D.lv lvL D.scal scalL D.cells D.cell D.cell' St.lk obPut obDel List.lookup cut pickD splice fillParts fillRows elem_cons newsOf D.pl D.forget forgetL Ob.forget forgetO eqCells sg leD leDL leOb apartK St.le D.keys keysL D.rows rowsL obKeys addKeys reach pos D.ren renL Ob.ren inM outM inObs outObs goneK apartN okNames_eq okNms obNms namesOK_nil namesOK_cons freeOK_nil freeOK_cons D.frz frzL Ob.frz frzO St.frz forgetLs dropObs putObs hcall freeOf keeps baseN shD isShift shMax k_bad VCopsG frz_nil actx actc cnum vwCut St.frzT St.opnT St.clsT D.opn opnL Ob.opn opnO VCou VCcx St.oneS D.objI D.objK scrL D.scr St.opnS St.clsS D.cellS D.fzs fzsL k_mrk k_mrq IOper.gh
set_option maxRecDepth 100000 in
theorem v_next : Verified T ir_lines_taker_next sp_next := by
  refine Verified.mkx (hs := hs_tk tkNext) rfl ?_
  rintro ds ob ⟨ws, b, rfl, rfl, hw⟩ R hR
  rw [tkO, next_F] at hR
  unfold tkO
  cases ws with
  | nil =>
    simp only [nxtW] at hR
    simp (implicitDefEqProofs := false) [ir_lines_taker_next]
    exact hR _ [] (by simp (implicitDefEqProofs := false))
  | cons w r =>
    simp only [nxtW] at hR
    have h0 : ¬ (r.length : Int) + 1 = 0 := by omega
    have he : elem (wc w :: r.map wc) 0 = [.str w] := rfl
    simp (implicitDefEqProofs := false) [ir_lines_taker_next, h0, he]
    exact ⟨by omega, hR _ [] (by simp (implicitDefEqProofs := false))⟩
set_option maxRecDepth 100000 in
theorem v_num (h1 : T.sp n_lines_taker_next = some sp_next) (h2 : T.sp n_strconv_Atoi = some sp_Atoi) (h3 : T.sp n_strconv_Itoa = some sp_Itoa) : Verified T ir_lines_taker_number sp_num := by
  refine Verified.mkx (hs := hs_tk tkNum) rfl ?_
  rintro ds ob ⟨ws, b, rfl, rfl, hw⟩ R hR
  rw [tkO, num_F] at hR
  unfold tkO
  have x1 : sp_next.hx = some (hs_tk tkNext) := rfl
  have x2 : sp_Atoi.hx = none := rfl
  have x3 : sp_Itoa.hx = none := rfl
  have f1 := next_F ws b
  have p1 := next_pre b hw
  have hl := nxtW_len (b := b) hw
  unfold numL at hR
  generalize hq : nxtW ws b = q at f1 hR hl
  obtain ⟨s, r, b2⟩ := q
  simp only at f1 hR hl
  have f2 := atoi_F s
  have p2 := atoi_pre hl
  have f3 := itoa_F (atoiV s)
  have p3 := itoa_pre (atoiV_inR s)
  generalize atoiV s = v at f2 f3 p3 hR
  cases ho : atoiOk s <;> cases b2 <;> by_cases e1 : Lib.itoa v = s <;> rw [ho] at f2 <;> simp only [ho, e1, Bool.or_true, Bool.or_false, Bool.not_true, Bool.not_false, decide_true, decide_false, not_true_eq_false, not_false_eq_true, Bool.true_or, Bool.false_or] at hR
  all_goals simp (implicitDefEqProofs := false) [ir_lines_taker_number, h1, x1, f1, p1, h2, x2, f2, p2, h3, x3, f3, p3, e1]
  all_goals exact hR _ [] (by simp (implicitDefEqProofs := false) [e1])
set_option maxRecDepth 100000 in
theorem v_IndexW : Verified T ir_slices_Index_string_string sp_IndexW := by
  refine Verified.mk ?_
  rintro ds ⟨l, w, rfl, hl⟩
  rw [indexW_F]
  have hel := fun i (h : i < l.length) => elem_map wc l i h
  have hlm : (l.map wc).length = l.length := List.length_map ..
  generalize l.map wc = es at hel hlm ⊢
  have hlc : (es.length : Int) = l.length := by omega
  simp (implicitDefEqProofs := false) [ir_slices_Index_string_string, hlc]
  refine k_loop (ι := {i : Nat // i ≤ l.length ∧ ∀ j (h : j < l.length), j < i → ¬ w = l[j]}) (fun y => ⟨mkTm 19 0 [(0, .fz 1 es), (1, .str w), (7, .int .i64 l.length), (8, .int .i64 y.1)], []⟩)
    (fun y => l.length - y.1) [] ⟨0, by omega, fun j _ h => by omega⟩ (by simp (implicitDefEqProofs := false) (maxSteps := 10000000)) ?_
  rintro ⟨i, hi, hb⟩ Q hQ
  simp only at hQ
  by_cases h : i < l.length
  · have hil : (i : Int) < l.length := by omega
    have hil' : i < es.length := by omega
    have he := hel i h
    simp only [wc] at he
    by_cases hw : w = l[i]
    · have hx : idxW l w = i := idxOf_found (g := fun x => decide (w = x)) h (by simpa using hw) fun j hj => by simpa using hb j (by omega) hj
      rw [hx]
      rw [← hw] at he
      simp (implicitDefEqProofs := false) (maxSteps := 10000000) [ir_slices_Index_string_string_b0, hil, hil', he]
      done
    · simp (implicitDefEqProofs := false) (maxSteps := 10000000) [ir_slices_Index_string_string_b0, hil, hil', he, hw]
      exact ⟨by simp only [inR]; omega, hQ _ [] ⟨i + 1, by omega, fun j hj hji => by
        by_cases e : j = i
        · subst e; exact hw
        · exact hb j hj (by omega)⟩ (by simp (implicitDefEqProofs := false) (maxSteps := 10000000)) (by simp only; omega)⟩
  · have hin : i = l.length := by omega
    subst hin
    have hx : idxW l w = -1 := idxOf_none (g := fun x => decide (w = x)) fun j hj => by simpa using hb j hj hj
    rw [hx]
    simp (implicitDefEqProofs := false) (maxSteps := 10000000) [ir_slices_Index_string_string_b0, ir_slices_Index_string_string_r1]
    done
end
end Go.Proofs.YthiggepiihoooaaDoor
