/-
  A script that may not be is refused before anything is run: cluster.Run, where it refuses. Conditions: those of each specification's 'pre', and that the functions that are called are what theirs say.
-/
import Derived.Test.YtgefnajcfbakbaaGreatDoorAct9
set_option linter.unusedVariables false
set_option linter.unusedSimpArgs false
namespace Go.Proofs.YtgefnajcfbakbaaGreatDoor
open Go Go.Vcg

/-- The first act that may not be. -/
def badAt (S : Int) (L : Nat) : List Ac → Nat → Int × Int
  | [], _ => (0, 0)
  | a :: r, i => if actE S L a ≠ 0 then (i, actE S L a) else badAt S L r (i + 1)
theorem badAt_mid {S : Int} {L : Nat} {x : Ac} {R : List Ac} (hx : actE S L x ≠ 0) : ∀ (A : List Ac) (i : Nat), (∀ a ∈ A, actE S L a = 0) → badAt S L (A ++ x :: R) i = (((i + A.length : Nat) : Int), actE S L x)
  | [], i, _ => by simp only [List.nil_append, badAt, if_pos hx, List.length_nil, Nat.add_zero]
  | a :: A, i, h => by
    have h0 := h a (by simp)
    simp only [List.cons_append, badAt, h0, ne_eq, not_true_eq_false, if_false]
    rw [badAt_mid hx A (i + 1) (fun b hb => h b (by simp [hb]))]
    simp only [List.length_cons]
    congr 2
    omega
def runT (S : Int) (ls : List (Int × Int)) (P : Int) (es : List (List D)) : Int × Int :=
  if check S ls P ≠ 0 then (0, check S ls P) else if 3000 < es.length then (0, 1) else badAt S ls.length (es.map actL) 0
/-- Where it refuses. -/
def refuses (S : Int) (ls : List (Int × Int)) (P : Int) (es : List (List D)) : Prop :=
  check S ls P ≠ 0 ∨ (check S ls P = 0 ∧ 3000 < es.length) ∨ (check S ls P = 0 ∧ es.length ≤ 3000 ∧ ∃ (A : List Ac) (x : Ac) (R : List Ac), es = (A ++ x :: R).map actC ∧ (∀ a ∈ A, actE S ls.length a = 0 ∧ okAc a) ∧ actE S ls.length x ≠ 0 ∧ okAc x)
def esOf : D → List (List D)
  | .fz _ es => es
  | _ => []
def sp_Run : Sp := {
  pre := fun ds => ∃ (S : Int) (ls : List (Int × Int)) (P : Int) (es : List (List D)), ds = [cfgD S ls P, .fz 12 es] ∧ es.length ≤ 1000000 ∧ refuses S ls P es
  F := fun | [c, x] => .tup [.agg [.fz 6 [], .fz 1 [], .int .i64 0, .fz 4 []], .int .i64 (runT (cfgOf c).1 (cfgOf c).2.1 (cfgOf c).2.2 (esOf x)).1, .int .i64 (runT (cfgOf c).1 (cfgOf c).2.1 (cfgOf c).2.2 (esOf x)).2] | _ => .any }
theorem run_F (S : Int) (ls : List (Int × Int)) (P : Int) (es : List (List D)) : sp_Run.F [cfgD S ls P, .fz 12 es] = .tup [.agg [.fz 6 [], .fz 1 [], .int .i64 0, .fz 4 []], .int .i64 (runT S ls P es).1, .int .i64 (runT S ls P es).2] := by
  simp only [sp_Run, cfgOf_cfgD, esOf]
theorem run_pre {S : Int} {ls : List (Int × Int)} {P : Int} {es : List (List D)} (hl : es.length ≤ 1000000) (h : refuses S ls P es) : sp_Run.pre [cfgD S ls P, .fz 12 es] = True := by
  simp only [sp_Run, eq_iff_iff, iff_true]; exact ⟨S, ls, P, es, rfl, hl, h⟩
theorem check_F (S : Int) (ls : List (Int × Int)) (P : Int) : sp_Check.F [cfgD S ls P] = .int .i64 (check S ls P) := by
  simp only [sp_Check, cfgOf_cfgD]
theorem check_pre (S : Int) (ls : List (Int × Int)) (P : Int) : sp_Check.pre [cfgD S ls P] = True := by
  simp only [sp_Check, eq_iff_iff, iff_true]
  exact ⟨_, rfl, by simp [isCfg, cfgD, isLb_lbc]⟩
theorem cfg_is (S : Int) (ls : List (Int × Int)) (P : Int) : isCfg (cfgD S ls P) = true := by simp [isCfg, cfgD, isLb_lbc]

section
variable {T : Tb}
attribute [local simp] k_seq k_block k_skip k_reg k_alt k_cond k_exit k_ret kf_nil kf_seq_n kf_seq_e kf_seq_r kf_blk_n kf_blk_e kf_blk_r kf_lp_n kf_lp_e kf_lp_r kf_cut_n kf_cut_e kf_cut_r mkTm VCops VCalt istep act gd applyE wrapD Opd.ev get_mk set_mk set_mk0 tget16 tset16 tget_0 tset_0 tget_1 tset_1 tget_2 tset_2 tget_3 tset_3 tget_4 tset_4 tget_5 tset_5 tget_6 tset_6 tget_7 tset_7 tget_8 tset_8 tget_9 tset_9 tget_10 tset_10 tget_11 tset_11 tget_12 tset_12 tget_13 tset_13 tget_14 tset_14 tget_15 tset_15 D.un D.gu gus IOp.opds binD fnPost getRes IRes.get oneRes D.out outL D.clos closL D.norow norowL D.lv lvL D.scal scalL D.cells D.cell D.cell' St.lk obPut obDel List.lookup cut pickD splice fillParts fillRows elem_cons newsOf D.pl D.forget forgetL Ob.forget forgetO eqCells sg leD leDL leOb apartK St.le D.keys keysL D.rows rowsL obKeys addKeys reach pos D.ren renL Ob.ren inM outM inObs outObs goneK apartN okNames_eq okNms obNms namesOK_nil namesOK_cons freeOK_nil freeOK_cons D.frz frzL Ob.frz frzO St.frz forgetLs dropObs putObs hcall freeOf keeps baseN shD isShift shMax k_bad VCopsG frz_nil actx actc cnum vwCut St.frzT St.opnT St.clsT D.opn opnL Ob.opn opnO VCou VCcx St.oneS D.objI D.objK scrL D.scr St.opnS St.clsS D.cellS D.fzs fzsL k_mrk k_mrq IOper.gh
theorem v_Picked (h1 : T.sp n_reredoskeep_picked = some sp_picked) : Verified T ir_reredoskeep_Picked sp_picked := by
  refine Verified.mk ?_
  rintro ds ⟨n, m, rfl, hn, hm⟩
  have x1 : sp_picked.hx = none := rfl
  have f1 : sp_picked.F [.int .i64 n, .int .i64 m] = .int .i64 (pk n m) := rfl
  have p1 : sp_picked.pre [.int .i64 n, .int .i64 m] = True := by simp only [sp_picked, eq_iff_iff, iff_true]; exact ⟨n, m, rfl, hn, hm⟩
  simp (implicitDefEqProofs := false) [ir_reredoskeep_Picked, h1, x1, f1, p1]
set_option maxRecDepth 100000 in
set_option maxHeartbeats 4000000 in
theorem v_Run (h1 : T.sp n_label_Check = some sp_Check) (h2 : T.sp n_lines_Check = some sp_LCheck) : Verified T ir_cluster_Run sp_Run := by
  refine Verified.mk ?_
  rintro ds ⟨S, ls, P, es, rfl, hlen, hr⟩
  rw [run_F]
  have x1 : sp_Check.hx = none := rfl
  have x2 : sp_LCheck.hx = none := rfl
  have f1 := check_F S ls P
  have p1 := check_pre S ls P
  unfold runT
  rcases hr with hc | ⟨hc, hl⟩ | ⟨hc, hl, A, x, R, hes, hA, hx, hxo⟩
  · rw [if_pos hc]
    generalize check S ls P = e at f1 hc ⊢
    simp only [cfgD] at f1 p1 ⊢
    simp (implicitDefEqProofs := false) [ir_cluster_Run, h1, x1, f1, p1, hc]
    done
  · have hl' : 3000 < (es.length : Int) := by omega
    rw [if_neg (fun h => h hc), if_pos hl]
    rw [hc] at f1
    simp only [cfgD] at f1 p1 ⊢
    simp (implicitDefEqProofs := false) [ir_cluster_Run, h1, x1, f1, p1, hl']
    done
  · obtain ⟨l, hll⟩ : ∃ l, l = A ++ x :: R := ⟨_, rfl⟩
    rw [← hll] at hes
    have hlA : A.length < l.length := by rw [hll]; simp
    have hgA : ∀ i (h : i < A.length) (h' : i < l.length), l[i]'h' = A[i] := fun i h h' => by subst hll; simp [List.getElem_append, h]
    have hgx : l[A.length]'hlA = x := by subst hll; simp
    have hel := fun i (h : i < l.length) => elem_map actC l i h
    have hmap : es.map actL = A ++ x :: R := by
      rw [hes, List.map_map, ← hll]
      have : actL ∘ actC = id := funext actL_actC
      rw [this, List.map_id]
    rw [← hes] at hel
    have hlm : es.length = l.length := by rw [hes, List.length_map]
    have hl' : ¬ 3000 < (l.length : Int) := by omega
    rw [if_neg (fun h => h hc), if_neg (by omega)]
    rw [hmap, badAt_mid hx A 0 (fun a ha => (hA a ha).1)]
    have f3 := fun a => lchk_F (S := S) (P := P) (ls := ls) a hc
    have p3 := fun (a : Ac) (ha : okAc a) => lchk_pre (S := S) (P := P) (ls := ls) (a := a) (cfg_is S ls P) ha
    rw [hc] at f1
    clear hes hmap hll
    generalize hcf : ls.map lbc = cs at f1 p1 f3 p3 ⊢
    simp only [cfgD, hcf] at f1 p1 ⊢
    have hlc : (es.length : Int) = l.length := by omega
    simp (implicitDefEqProofs := false) [ir_cluster_Run, h1, x1, f1, p1, hlc, hl']
    refine k_loop (ι := {i : Nat // i ≤ A.length}) (fun y => ⟨mkTm 118 0 [(1, .fz 12 es), (2, .own 2 0), (4, .own 4 0), (28, .fz 12 es), (29, .int .i64 l.length), (30, .int .i64 y.1)], [(2, .box [.int .i64 S, .fz 2 cs, .int .i64 P]), (4, .box [.nl 6, .nl 1, .int .i64 0, .nl 4])]⟩)
      (fun y => A.length - y.1) [] ⟨0, by omega⟩ (by simp (implicitDefEqProofs := false) (maxSteps := 10000000)) ?_
    rintro ⟨i, hi⟩ Q hQ
    by_cases h : i < A.length
    · have hil : (i : Int) < l.length := by omega
      have hil' : i < es.length := by omega
      have he := hel i (by omega)
      rw [hgA i h (by omega)] at he
      obtain ⟨hg, hok⟩ := hA _ (List.getElem_mem h)
      have f3' := f3 A[i]
      have p3' := p3 A[i] hok
      rw [hg] at f3'
      generalize A[i] = a at he f3' p3'
      clear f3 p3 hel
      obtain ⟨kind, site, to, label, pick, keep, ⟨c1, c2, c3, c4, c5⟩, line⟩ := a
      simp only [actC] at he f3' p3'
      simp (implicitDefEqProofs := false) (maxSteps := 10000000) [ir_cluster_Run_b0, hil, hil', he, h2, x2, f3', p3']
      exact ⟨by simp only [inR]; omega, hQ _ [] ⟨i + 1, by omega⟩ (by simp (implicitDefEqProofs := false) (maxSteps := 10000000)) (by simp only; omega)⟩
    · have hiA : i = A.length := by omega
      subst hiA
      have hil : (A.length : Int) < l.length := by omega
      have hil' : A.length < es.length := by omega
      have he := hel A.length (by omega)
      rw [hgx] at he
      have f3' := f3 x
      have p3' := p3 x hxo
      generalize actE S ls.length x = ex at f3' hx ⊢
      clear f3 p3 hel hgx
      obtain ⟨kind, site, to, label, pick, keep, ⟨c1, c2, c3, c4, c5⟩, line⟩ := x
      simp only [actC] at he f3' p3'
      simp (implicitDefEqProofs := false) (maxSteps := 10000000) [ir_cluster_Run_b0, hil, hil', he, h2, x2, f3', p3', hx]
      done
end
end Go.Proofs.YtgefnajcfbakbaaGreatDoor
