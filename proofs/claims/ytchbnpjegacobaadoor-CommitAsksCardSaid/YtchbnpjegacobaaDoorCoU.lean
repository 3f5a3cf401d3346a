/-
  Turns at a coordinator: why a call may not be. Conditions: those of each specification's 'pre', and that the functions that are called are what theirs say.
-/
import Derived.Test.YtchbnpjegacobaaDoorCoO
set_option linter.unusedVariables false
set_option linter.unusedSimpArgs false
namespace Go.Proofs.YtchbnpjegacobaaDoor
open Go Go.Vcg
theorem getDtk {l : List Tk} {i : Nat} (h : i < l.length) : l.getD i tk0 = l[i] := by simp [List.getD, h]
section
variable {T : Tb}
attribute [local simp] k_seq k_block k_skip k_reg k_alt k_cond k_exit k_ret kf_nil kf_seq_n kf_seq_e kf_seq_r kf_blk_n kf_blk_e kf_blk_r kf_lp_n kf_lp_e kf_lp_r kf_cut_n kf_cut_e kf_cut_r mkTm VCops VCalt istep act gd applyE wrapD Opd.ev get_mk set_mk set_mk0 tget16 tset16 tget_0 tset_0 tget_1 tset_1 tget_2 tset_2 tget_3 tset_3 tget_4 tset_4 tget_5 tset_5 tget_6 tset_6 tget_7 tset_7 tget_8 tset_8 tget_9 tset_9 tget_10 tset_10 tget_11 tset_11 tget_12 tset_12 tget_13 tset_13 tget_14 tset_14 tget_15 tset_15 D.un D.gu gus IOp.opds binD fnPost getRes IRes.get oneRes D.out outL D.clos closL D.norow norowL D.lv lvL D.scal scalL D.cells D.cell D.cell' St.lk obPut obDel List.lookup cut pickD splice fillParts fillRows elem_cons newsOf D.pl D.forget forgetL Ob.forget forgetO eqCells sg leD leDL leOb apartK St.le D.keys keysL D.rows rowsL obKeys addKeys reach pos D.ren renL Ob.ren inM outM inObs outObs goneK apartN okNames_eq okNms obNms namesOK_nil namesOK_cons freeOK_nil freeOK_cons D.frz frzL Ob.frz frzO St.frz forgetLs dropObs putObs hcall freeOf keeps baseN shD isShift shMax k_bad VCopsG frz_nil actx actc cnum vwCut St.frzT St.opnT St.clsT D.opn opnL Ob.opn opnO VCou VCcx St.oneS D.objI D.objK scrL D.scr St.opnS St.clsS D.cellS D.fzs fzsL k_mrk k_mrq IOper.gh
set_option maxRecDepth 100000 in
set_option maxHeartbeats 16000000 in
theorem v_refuse (h1 : T.sp n_coord_work_place = some sp_place) (h2 : T.sp n_label_Above = some sp_Above) : Verified T ir_coord_work_refuse sp_refuse := by
  refine Verified.mkx rfl ?_
  rintro ds ob ⟨h, ⟨next, su, co, js, ms, rs, rp⟩, av, rfl, rfl, x, rfl, hall, ⟨hS, hl, hm1, hm2, hm3⟩, hl0, hl1⟩ R hR
  rw [hsW_F] at hR
  simp only [fRef, clOf_clC, refE] at hR hl hm1 hm2 hm3 hall
  have x1 : sp_place.hx = some hs_place := rfl
  have x2 : sp_Above.hx = none := rfl
  have f1 := place_F x.n h next su co js ms rs rp
  have p1 := place_pre x.n h next su co (js := js) ms rs rp (by omega)
  obtain ⟨b0, b1⟩ := placeJ_b js x.n
  obtain ⟨kind, n, label, key, value⟩ := x
  obtain ⟨S, ls, P, lN, me⟩ := h
  simp only at hl0 hl1 hR f1 p1 b0 b1
  obtain ⟨l, rfl⟩ : ∃ l : Nat, lN = l := ⟨lN.toNat, by omega⟩
  have hlL : l < ls.length := by omega
  have hle := elem_map lbc ls l hlL
  generalize hp : placeJ js n = p at hR f1 b0 b1
  simp only [refP] at hR
  simp only [clC, wRW, wIW, wI, wR, w5, wb] at f1 p1 hR ⊢
  by_cases hp0 : p < 0
  · simp only [if_pos hp0] at hR
    simp (implicitDefEqProofs := false) (maxSteps := 10000000) [ir_coord_work_refuse, h1, x1, f1, p1, hp0]
    exact hR _ [(0, some 1000000001), (1, some 1000000002), (2, some 1000000003), (3, some 1000000004)] (by simp (implicitDefEqProofs := false) (maxSteps := 10000000))
  · obtain ⟨i, rfl⟩ : ∃ i : Nat, p = i := ⟨p.toNat, by omega⟩
    simp only [if_neg hp0, Int.toNat_natCast] at hR
    have hi : i < js.length := by omega
    have hel := elem_jbS hi
    have hse := fun e => set_jbS (e := e) hi
    rw [← jAt_eq hi] at hse
    obtain ⟨j1, j2, j3⟩ := hall i hi
    generalize jAt js i = j at hel j1 j2 j3 hR hse
    obtain ⟨a1, a2, a3, a4, a5, a6⟩ := j
    simp only at j1 j2 j3
    simp only [jbS] at hel hse
    have hse' := hse _ rfl
    have g1 : ls.getD l (0, 0) = ls[l] := by simp [hlL]
    have hlast : (a3 = [] ∧ ¬ waits ⟨a1, a2, a3, a4, a5, a6⟩) ∨ (∃ k : Nat, ∃ q : k < a3.length, (a3.length : Int) - 1 = k ∧ (waits ⟨a1, a2, a3, a4, a5, a6⟩ ↔ a3[k].done = false)) := by
      by_cases e : a3.length = 0
      · exact Or.inl ⟨List.eq_nil_of_length_eq_zero e, fun hh => by have := hh.1; simp only at this; omega⟩
      · refine Or.inr ⟨a3.length - 1, by omega, by omega, ?_⟩
        have hkg : a3.getD (a3.length - 1) tk0 = a3[a3.length - 1]'(by omega) := getDtk (by omega)
        simp only [waits, tkLast, hkg]
        exact ⟨fun hh => hh.2, fun hh => ⟨by omega, hh⟩⟩
    have hall13 : a2 ≠ 1 → refJ ⟨S, ls, P, l, me⟩ ⟨a1, a2, a3, a4, a5, a6⟩ ⟨kind, n, label, key, value⟩ = 13 := fun q => by
      unfold refJ; rw [if_neg q]
    have hall14 : a2 = 1 → waits ⟨a1, a2, a3, a4, a5, a6⟩ → refJ ⟨S, ls, P, l, me⟩ ⟨a1, a2, a3, a4, a5, a6⟩ ⟨kind, n, label, key, value⟩ = 14 := fun q w => by
      unfold refJ; rw [if_pos q, if_pos w]
    have hall0 : a2 = 1 → ¬ waits ⟨a1, a2, a3, a4, a5, a6⟩ → ¬ kind = 2 → ¬ kind = 3 → refJ ⟨S, ls, P, l, me⟩ ⟨a1, a2, a3, a4, a5, a6⟩ ⟨kind, n, label, key, value⟩ = 0 := fun q w k2 k3 => by
      unfold refJ; rw [if_pos q, if_neg w, if_neg (fun hh => hh.elim k2 k3)]
    have hall2 : a2 = 1 → ¬ waits ⟨a1, a2, a3, a4, a5, a6⟩ → (¬ kind = 2 → kind = 3) → ((key < 0 ∨ 8 ≤ key) ∨ value < 0) ∨ 1073741824 < value → refJ ⟨S, ls, P, l, me⟩ ⟨a1, a2, a3, a4, a5, a6⟩ ⟨kind, n, label, key, value⟩ = 2 := fun q w k2 hb => by
      have hk : kind = 2 ∨ kind = 3 := by omega
      have hb' : badR ⟨kind, n, label, key, value⟩ := by simp only [badR]; omega
      unfold refJ; rw [if_pos q, if_neg w, if_pos hk, if_pos hb']
    have hall10 : a2 = 1 → ¬ waits ⟨a1, a2, a3, a4, a5, a6⟩ → (¬ kind = 2 → kind = 3) → 0 ≤ key → key < 8 → 0 ≤ value → value ≤ 1073741824 → badL ⟨S, ls, P, l, me⟩ ⟨kind, n, label, key, value⟩ → refJ ⟨S, ls, P, l, me⟩ ⟨a1, a2, a3, a4, a5, a6⟩ ⟨kind, n, label, key, value⟩ = 10 := fun q w k2 u1 u2 u3 u4 hb => by
      have hk : kind = 2 ∨ kind = 3 := by omega
      have hb' : ¬ badR ⟨kind, n, label, key, value⟩ := by simp only [badR]; omega
      unfold refJ; rw [if_pos q, if_neg w, if_pos hk, if_neg hb', if_pos hb]
    have hall8 : a2 = 1 → ¬ waits ⟨a1, a2, a3, a4, a5, a6⟩ → (¬ kind = 2 → kind = 3) → 0 ≤ key → key < 8 → 0 ≤ value → value ≤ 1073741824 → ¬ badL ⟨S, ls, P, l, me⟩ ⟨kind, n, label, key, value⟩ → (a3.length = 10 ∨ a5 = 1048576) → refJ ⟨S, ls, P, l, me⟩ ⟨a1, a2, a3, a4, a5, a6⟩ ⟨kind, n, label, key, value⟩ = 8 := fun q w k2 u1 u2 u3 u4 hb hf => by
      have hk : kind = 2 ∨ kind = 3 := by omega
      have hb' : ¬ badR ⟨kind, n, label, key, value⟩ := by simp only [badR]; omega
      unfold refJ; rw [if_pos q, if_neg w, if_pos hk, if_neg hb', if_neg hb, if_pos hf]
    have hallz : a2 = 1 → ¬ waits ⟨a1, a2, a3, a4, a5, a6⟩ → (¬ kind = 2 → kind = 3) → 0 ≤ key → key < 8 → 0 ≤ value → value ≤ 1073741824 → ¬ badL ⟨S, ls, P, l, me⟩ ⟨kind, n, label, key, value⟩ → ¬ (a3.length = 10 ∨ a5 = 1048576) → refJ ⟨S, ls, P, l, me⟩ ⟨a1, a2, a3, a4, a5, a6⟩ ⟨kind, n, label, key, value⟩ = 0 := fun q w k2 u1 u2 u3 u4 hb hf => by
      have hk : kind = 2 ∨ kind = 3 := by omega
      have hb' : ¬ badR ⟨kind, n, label, key, value⟩ := by simp only [badR]; omega
      unfold refJ; rw [if_pos q, if_neg w, if_pos hk, if_neg hb', if_neg hb, if_neg hf]
    have hgo : ∀ e, refJ ⟨S, ls, P, l, me⟩ ⟨a1, a2, a3, a4, a5, a6⟩ ⟨kind, n, label, key, value⟩ = e → _ := fun e he => by
      rw [he] at hR; exact hR
    clear hR
    generalize hrj : refJ ⟨S, ls, P, l, me⟩ ⟨a1, a2, a3, a4, a5, a6⟩ ⟨kind, n, label, key, value⟩ = rj at hall13 hall14 hall0 hall2 hall10 hall8 hallz hgo
    clear hrj
    have hlx : label < 0 ∨ (0 ≤ label ∧ (ls.length : Int) ≤ label) ∨ (∃ lx : Nat, ∃ q : lx < ls.length, label = lx) := by
      by_cases e1 : label < 0
      · exact Or.inl e1
      · by_cases e2 : (ls.length : Int) ≤ label
        · exact Or.inr (Or.inl ⟨by omega, e2⟩)
        · exact Or.inr (Or.inr ⟨label.toNat, by omega, by omega⟩)
    have hbl : badL ⟨S, ls, P, l, me⟩ ⟨kind, n, label, key, value⟩ ↔ kind = 2 ∧ (label < 0 ∨ (ls.length : Int) ≤ label ∨ above ls[l] (ls.getD label.toNat (0, 0)) = false) := by
      simp only [badL, lbAt, Int.toNat_natCast, g1]
    generalize badL ⟨S, ls, P, l, me⟩ ⟨kind, n, label, key, value⟩ = bl at hbl hall10 hall8 hallz
    simp only [lbc] at hle
    rcases hlast with ⟨rfl, hw⟩ | ⟨k, hk, hkc, hw⟩
    · have hen : elem ([] : List (List D)) 0 = [] := rfl
      simp only [List.map_nil] at hel hse'
      rcases hlx with hneg | ⟨hnn, hbig⟩ | ⟨lx, hxL, rfl⟩
      · have htn : label.toNat = 0 := by omega
        have hl0' : 0 < ls.length := by omega
        have hxe := elem_map lbc ls 0 hl0'
        have f2 := above_F ls[l] ls[0]
        have p2 := above_pre ls[l] ls[0]
        simp only [lbc] at f2 p2 hxe
        simp (implicitDefEqProofs := false) (maxSteps := 10000000) [ir_coord_work_refuse, h1, x1, f1, p1, hp0, hi, hel, hse', b1, hlL, hl1, hle, h2, x2, f2, p2, hen, hneg, htn, hl0', hxe]
        refine ⟨fun q => ?_, fun q => ⟨fun k2 k3 => ?_, fun kk => ⟨fun hb => ?_, fun u1 u2 u3 u4 => ⟨fun k2 => ?_, fun k2 => ⟨fun hf => ?_, fun hf => ?_⟩⟩⟩⟩⟩
        · exact hgo 13 (hall13 q) _ [(0, some 1000000001), (1, some 1000000002), (2, some 1000000003), (3, some 1000000004)] (by simp (implicitDefEqProofs := false) (maxSteps := 10000000))
        · exact hgo 0 (hall0 q hw k2 k3) _ [(0, some 1000000001), (1, some 1000000002), (2, some 1000000003), (3, some 1000000004)] (by simp (implicitDefEqProofs := false) (maxSteps := 10000000))
        · exact hgo 2 (hall2 q hw kk hb) _ [(0, some 1000000001), (1, some 1000000002), (2, some 1000000003), (3, some 1000000004)] (by simp (implicitDefEqProofs := false) (maxSteps := 10000000))
        · exact hgo 10 (hall10 q hw kk u1 u2 u3 u4 (hbl.2 ⟨k2, Or.inl hneg⟩)) _ [(0, some 1000000001), (1, some 1000000002), (2, some 1000000003), (3, some 1000000004)] (by simp (implicitDefEqProofs := false) (maxSteps := 10000000))
        · exact hgo 8 (hall8 q hw kk u1 u2 u3 u4 (fun z => k2 (hbl.1 z).1) (Or.inr hf)) _ [(0, some 1000000001), (1, some 1000000002), (2, some 1000000003), (3, some 1000000004)] (by simp (implicitDefEqProofs := false) (maxSteps := 10000000))
        · exact hgo 0 (hallz q hw kk u1 u2 u3 u4 (fun z => k2 (hbl.1 z).1) (fun z => z.elim (by simp) hf)) _ [(0, some 1000000001), (1, some 1000000002), (2, some 1000000003), (3, some 1000000004)] (by simp (implicitDefEqProofs := false) (maxSteps := 10000000))
      · have hxe : elem (ls.map lbc) label.toNat = [] := by
          simp only [elem, List.getD_eq_getElem?_getD]
          rw [List.getElem?_eq_none (by simp; omega)]; rfl
        have f2 : sp_Above.F [.agg (lbc ls[l]), .agg []] = .bool (above ls[l] (0, 0)) := rfl
        have p2 : True := trivial
        simp only [lbc] at f2
        simp (implicitDefEqProofs := false) (maxSteps := 10000000) [ir_coord_work_refuse, h1, x1, f1, p1, hp0, hi, hel, hse', b1, hlL, hl1, hle, h2, x2, f2, p2, hen, hnn, hbig, hxe]
        refine ⟨fun q => ?_, fun q => ⟨fun k2 k3 => ?_, fun kk => ⟨fun hb => ?_, fun u1 u2 u3 u4 => ⟨fun k2 => ?_, fun k2 => ⟨fun hf => ?_, fun hf => ?_⟩⟩⟩⟩⟩
        · exact hgo 13 (hall13 q) _ [(0, some 1000000001), (1, some 1000000002), (2, some 1000000003), (3, some 1000000004)] (by simp (implicitDefEqProofs := false) (maxSteps := 10000000))
        · exact hgo 0 (hall0 q hw k2 k3) _ [(0, some 1000000001), (1, some 1000000002), (2, some 1000000003), (3, some 1000000004)] (by simp (implicitDefEqProofs := false) (maxSteps := 10000000))
        · exact hgo 2 (hall2 q hw kk hb) _ [(0, some 1000000001), (1, some 1000000002), (2, some 1000000003), (3, some 1000000004)] (by simp (implicitDefEqProofs := false) (maxSteps := 10000000))
        · exact hgo 10 (hall10 q hw kk u1 u2 u3 u4 (hbl.2 ⟨k2, Or.inr (Or.inl hbig)⟩)) _ [(0, some 1000000001), (1, some 1000000002), (2, some 1000000003), (3, some 1000000004)] (by simp (implicitDefEqProofs := false) (maxSteps := 10000000))
        · exact hgo 8 (hall8 q hw kk u1 u2 u3 u4 (fun z => k2 (hbl.1 z).1) (Or.inr hf)) _ [(0, some 1000000001), (1, some 1000000002), (2, some 1000000003), (3, some 1000000004)] (by simp (implicitDefEqProofs := false) (maxSteps := 10000000))
        · exact hgo 0 (hallz q hw kk u1 u2 u3 u4 (fun z => k2 (hbl.1 z).1) (fun z => z.elim (by simp) hf)) _ [(0, some 1000000001), (1, some 1000000002), (2, some 1000000003), (3, some 1000000004)] (by simp (implicitDefEqProofs := false) (maxSteps := 10000000))
      · have hxe := elem_map lbc ls lx hxL
        have g2 : ls.getD lx (0, 0) = ls[lx] := by simp [hxL]
        have f2 := above_F ls[l] ls[lx]
        have p2 := above_pre ls[l] ls[lx]
        simp only [lbc] at f2 p2 hxe
        simp (implicitDefEqProofs := false) (maxSteps := 10000000) [ir_coord_work_refuse, h1, x1, f1, p1, hp0, hi, hel, hse', b1, hlL, hl1, hle, h2, x2, f2, p2, hen, hxL, hxe]
        refine ⟨fun q => ?_, fun q => ⟨fun k2 k3 => ?_, fun kk => ⟨fun hb => ?_, fun u1 u2 u3 u4 => ⟨fun k2 hab => ?_, fun k2 => ⟨fun hf => ?_, fun hf => ?_⟩⟩⟩⟩⟩
        · exact hgo 13 (hall13 q) _ [(0, some 1000000001), (1, some 1000000002), (2, some 1000000003), (3, some 1000000004)] (by simp (implicitDefEqProofs := false) (maxSteps := 10000000))
        · exact hgo 0 (hall0 q hw k2 k3) _ [(0, some 1000000001), (1, some 1000000002), (2, some 1000000003), (3, some 1000000004)] (by simp (implicitDefEqProofs := false) (maxSteps := 10000000))
        · exact hgo 2 (hall2 q hw kk hb) _ [(0, some 1000000001), (1, some 1000000002), (2, some 1000000003), (3, some 1000000004)] (by simp (implicitDefEqProofs := false) (maxSteps := 10000000))
        · exact hgo 10 (hall10 q hw kk u1 u2 u3 u4 (hbl.2 ⟨k2, by simp only [Int.toNat_natCast, g2]; exact hab.elim (fun z => z.elim Or.inl (fun z => Or.inr (Or.inl (by omega)))) (fun z => Or.inr (Or.inr z))⟩)) _ [(0, some 1000000001), (1, some 1000000002), (2, some 1000000003), (3, some 1000000004)] (by simp (implicitDefEqProofs := false) (maxSteps := 10000000))
        · exact hgo 8 (hall8 q hw kk u1 u2 u3 u4 (fun z => by obtain ⟨z1, z2⟩ := hbl.1 z; simp only [Int.toNat_natCast, g2] at z2; exact z2.elim (fun y => absurd y (by omega)) (fun y => y.elim (fun y => absurd y (by omega)) (fun y => by rw [k2 z1] at y; cases y))) (Or.inr hf)) _ [(0, some 1000000001), (1, some 1000000002), (2, some 1000000003), (3, some 1000000004)] (by simp (implicitDefEqProofs := false) (maxSteps := 10000000))
        · exact hgo 0 (hallz q hw kk u1 u2 u3 u4 (fun z => by obtain ⟨z1, z2⟩ := hbl.1 z; simp only [Int.toNat_natCast, g2] at z2; exact z2.elim (fun y => absurd y (by omega)) (fun y => y.elim (fun y => absurd y (by omega)) (fun y => by rw [k2 z1] at y; cases y))) (fun z => z.elim (by simp) hf)) _ [(0, some 1000000001), (1, some 1000000002), (2, some 1000000003), (3, some 1000000004)] (by simp (implicitDefEqProofs := false) (maxSteps := 10000000))
    · have hke := elem_map tkC a3 k hk
      have hkr : inR .i64 ((k : Nat) : Int) := by simp only [inR]; omega
      have hk1 : ((k : Nat) : Int) < (a3.length : Int) := by omega
      generalize a3[k] = t at hke hw
      obtain ⟨t1, t2, t3, t4, t5, t6, t7, t8⟩ := t
      simp only [tkC] at hke hw
      rcases hlx with hneg | ⟨hnn, hbig⟩ | ⟨lx, hxL, rfl⟩
      · have htn : label.toNat = 0 := by omega
        have hl0' : 0 < ls.length := by omega
        have hxe := elem_map lbc ls 0 hl0'
        have f2 := above_F ls[l] ls[0]
        have p2 := above_pre ls[l] ls[0]
        simp only [lbc] at f2 p2 hxe
        simp (implicitDefEqProofs := false) (maxSteps := 10000000) [ir_coord_work_refuse, h1, x1, f1, p1, hp0, hi, hel, hse', b1, hlL, hl1, hle, h2, x2, f2, p2, hkc, hk, hk1, hke, hkr, hneg, htn, hl0', hxe]
        refine ⟨fun q => ?_, fun q => ⟨fun w0 w1 => ?_, fun w => ⟨fun k2 k3 => ?_, fun kk => ⟨fun hb => ?_, fun u1 u2 u3 u4 => ⟨fun k2 => ?_, fun k2 => ⟨fun hf => ?_, fun hf1 hf2 => ?_⟩⟩⟩⟩⟩⟩
        · exact hgo 13 (hall13 q) _ [(0, some 1000000001), (1, some 1000000002), (2, some 1000000003), (3, some 1000000004)] (by simp (implicitDefEqProofs := false) (maxSteps := 10000000))
        · exact hgo 14 (hall14 q (hw.2 w1)) _ [(0, some 1000000001), (1, some 1000000002), (2, some 1000000003), (3, some 1000000004)] (by simp (implicitDefEqProofs := false) (maxSteps := 10000000))
        · exact hgo 0 (hall0 q (fun z => by have z1 := w (by omega); rw [hw.1 z] at z1; cases z1) k2 k3) _ [(0, some 1000000001), (1, some 1000000002), (2, some 1000000003), (3, some 1000000004)] (by simp (implicitDefEqProofs := false) (maxSteps := 10000000))
        · exact hgo 2 (hall2 q (fun z => by have z1 := w (by omega); rw [hw.1 z] at z1; cases z1) kk hb) _ [(0, some 1000000001), (1, some 1000000002), (2, some 1000000003), (3, some 1000000004)] (by simp (implicitDefEqProofs := false) (maxSteps := 10000000))
        · exact hgo 10 (hall10 q (fun z => by have z1 := w (by omega); rw [hw.1 z] at z1; cases z1) kk u1 u2 u3 u4 (hbl.2 ⟨k2, Or.inl hneg⟩)) _ [(0, some 1000000001), (1, some 1000000002), (2, some 1000000003), (3, some 1000000004)] (by simp (implicitDefEqProofs := false) (maxSteps := 10000000))
        · exact hgo 8 (hall8 q (fun z => by have z1 := w (by omega); rw [hw.1 z] at z1; cases z1) kk u1 u2 u3 u4 (fun z => k2 (hbl.1 z).1) (by omega)) _ [(0, some 1000000001), (1, some 1000000002), (2, some 1000000003), (3, some 1000000004)] (by simp (implicitDefEqProofs := false) (maxSteps := 10000000))
        · exact hgo 0 (hallz q (fun z => by have z1 := w (by omega); rw [hw.1 z] at z1; cases z1) kk u1 u2 u3 u4 (fun z => k2 (hbl.1 z).1) (by omega)) _ [(0, some 1000000001), (1, some 1000000002), (2, some 1000000003), (3, some 1000000004)] (by simp (implicitDefEqProofs := false) (maxSteps := 10000000))
      · have hxe : elem (ls.map lbc) label.toNat = [] := by
          simp only [elem, List.getD_eq_getElem?_getD]
          rw [List.getElem?_eq_none (by simp; omega)]; rfl
        have f2 : sp_Above.F [.agg (lbc ls[l]), .agg []] = .bool (above ls[l] (0, 0)) := rfl
        have p2 : True := trivial
        simp only [lbc] at f2
        simp (implicitDefEqProofs := false) (maxSteps := 10000000) [ir_coord_work_refuse, h1, x1, f1, p1, hp0, hi, hel, hse', b1, hlL, hl1, hle, h2, x2, f2, p2, hkc, hk, hk1, hke, hkr, hnn, hbig, hxe]
        refine ⟨fun q => ?_, fun q => ⟨fun w0 w1 => ?_, fun w => ⟨fun k2 k3 => ?_, fun kk => ⟨fun hb => ?_, fun u1 u2 u3 u4 => ⟨fun k2 => ?_, fun k2 => ⟨fun hf => ?_, fun hf1 hf2 => ?_⟩⟩⟩⟩⟩⟩
        · exact hgo 13 (hall13 q) _ [(0, some 1000000001), (1, some 1000000002), (2, some 1000000003), (3, some 1000000004)] (by simp (implicitDefEqProofs := false) (maxSteps := 10000000))
        · exact hgo 14 (hall14 q (hw.2 w1)) _ [(0, some 1000000001), (1, some 1000000002), (2, some 1000000003), (3, some 1000000004)] (by simp (implicitDefEqProofs := false) (maxSteps := 10000000))
        · exact hgo 0 (hall0 q (fun z => by have z1 := w (by omega); rw [hw.1 z] at z1; cases z1) k2 k3) _ [(0, some 1000000001), (1, some 1000000002), (2, some 1000000003), (3, some 1000000004)] (by simp (implicitDefEqProofs := false) (maxSteps := 10000000))
        · exact hgo 2 (hall2 q (fun z => by have z1 := w (by omega); rw [hw.1 z] at z1; cases z1) kk hb) _ [(0, some 1000000001), (1, some 1000000002), (2, some 1000000003), (3, some 1000000004)] (by simp (implicitDefEqProofs := false) (maxSteps := 10000000))
        · exact hgo 10 (hall10 q (fun z => by have z1 := w (by omega); rw [hw.1 z] at z1; cases z1) kk u1 u2 u3 u4 (hbl.2 ⟨k2, Or.inr (Or.inl hbig)⟩)) _ [(0, some 1000000001), (1, some 1000000002), (2, some 1000000003), (3, some 1000000004)] (by simp (implicitDefEqProofs := false) (maxSteps := 10000000))
        · exact hgo 8 (hall8 q (fun z => by have z1 := w (by omega); rw [hw.1 z] at z1; cases z1) kk u1 u2 u3 u4 (fun z => k2 (hbl.1 z).1) (by omega)) _ [(0, some 1000000001), (1, some 1000000002), (2, some 1000000003), (3, some 1000000004)] (by simp (implicitDefEqProofs := false) (maxSteps := 10000000))
        · exact hgo 0 (hallz q (fun z => by have z1 := w (by omega); rw [hw.1 z] at z1; cases z1) kk u1 u2 u3 u4 (fun z => k2 (hbl.1 z).1) (by omega)) _ [(0, some 1000000001), (1, some 1000000002), (2, some 1000000003), (3, some 1000000004)] (by simp (implicitDefEqProofs := false) (maxSteps := 10000000))
      · have hxe := elem_map lbc ls lx hxL
        have g2 : ls.getD lx (0, 0) = ls[lx] := by simp [hxL]
        have f2 := above_F ls[l] ls[lx]
        have p2 := above_pre ls[l] ls[lx]
        simp only [lbc] at f2 p2 hxe
        simp (implicitDefEqProofs := false) (maxSteps := 10000000) [ir_coord_work_refuse, h1, x1, f1, p1, hp0, hi, hel, hse', b1, hlL, hl1, hle, h2, x2, f2, p2, hkc, hk, hk1, hke, hkr, hxL, hxe]
        refine ⟨fun q => ?_, fun q => ⟨fun w0 w1 => ?_, fun w => ⟨fun k2 k3 => ?_, fun kk => ⟨fun hb => ?_, fun u1 u2 u3 u4 => ⟨fun k2 hab => ?_, fun k2 => ⟨fun hf => ?_, fun hf1 hf2 => ?_⟩⟩⟩⟩⟩⟩
        · exact hgo 13 (hall13 q) _ [(0, some 1000000001), (1, some 1000000002), (2, some 1000000003), (3, some 1000000004)] (by simp (implicitDefEqProofs := false) (maxSteps := 10000000))
        · exact hgo 14 (hall14 q (hw.2 w1)) _ [(0, some 1000000001), (1, some 1000000002), (2, some 1000000003), (3, some 1000000004)] (by simp (implicitDefEqProofs := false) (maxSteps := 10000000))
        · exact hgo 0 (hall0 q (fun z => by have z1 := w (by omega); rw [hw.1 z] at z1; cases z1) k2 k3) _ [(0, some 1000000001), (1, some 1000000002), (2, some 1000000003), (3, some 1000000004)] (by simp (implicitDefEqProofs := false) (maxSteps := 10000000))
        · exact hgo 2 (hall2 q (fun z => by have z1 := w (by omega); rw [hw.1 z] at z1; cases z1) kk hb) _ [(0, some 1000000001), (1, some 1000000002), (2, some 1000000003), (3, some 1000000004)] (by simp (implicitDefEqProofs := false) (maxSteps := 10000000))
        · exact hgo 10 (hall10 q (fun z => by have z1 := w (by omega); rw [hw.1 z] at z1; cases z1) kk u1 u2 u3 u4 (hbl.2 ⟨k2, by simp only [Int.toNat_natCast, g2]; exact hab.elim (fun z => z.elim Or.inl (fun z => Or.inr (Or.inl (by omega)))) (fun z => Or.inr (Or.inr z))⟩)) _ [(0, some 1000000001), (1, some 1000000002), (2, some 1000000003), (3, some 1000000004)] (by simp (implicitDefEqProofs := false) (maxSteps := 10000000))
        · exact hgo 8 (hall8 q (fun z => by have z1 := w (by omega); rw [hw.1 z] at z1; cases z1) kk u1 u2 u3 u4 (fun z => by obtain ⟨z1, z2⟩ := hbl.1 z; simp only [Int.toNat_natCast, g2] at z2; exact z2.elim (fun y => absurd y (by omega)) (fun y => y.elim (fun y => absurd y (by omega)) (fun y => by rw [k2 z1] at y; cases y))) (by omega)) _ [(0, some 1000000001), (1, some 1000000002), (2, some 1000000003), (3, some 1000000004)] (by simp (implicitDefEqProofs := false) (maxSteps := 10000000))
        · exact hgo 0 (hallz q (fun z => by have z1 := w (by omega); rw [hw.1 z] at z1; cases z1) kk u1 u2 u3 u4 (fun z => by obtain ⟨z1, z2⟩ := hbl.1 z; simp only [Int.toNat_natCast, g2] at z2; exact z2.elim (fun y => absurd y (by omega)) (fun y => y.elim (fun y => absurd y (by omega)) (fun y => by rw [k2 z1] at y; cases y))) (by omega)) _ [(0, some 1000000001), (1, some 1000000002), (2, some 1000000003), (3, some 1000000004)] (by simp (implicitDefEqProofs := false) (maxSteps := 10000000))
end
end Go.Proofs.YtchbnpjegacobaaDoor
