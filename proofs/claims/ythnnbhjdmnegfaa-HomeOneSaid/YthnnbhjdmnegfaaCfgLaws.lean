/-
  ConfigGood and HomeOne return true on all inputs, as the language of the Vcg texts has them. Conditions: the arguments fit an int, the slice is no longer than memory.
-/
import Derived.Test.YthnnbhjdmnegfaaCfg
import Derived.Test.YthnnbhjdmnegfaaLabelLaws
set_option linter.unusedVariables false
set_option linter.unusedSimpArgs false
namespace Go.Proofs.Ythnnbhjdmnegfaa
open Go Go.Vcg

theorem chkL_append : ∀ (a b pre : List (Int × Int)), chkL pre (a ++ b) = if chkL pre a = 0 then chkL (pre ++ a) b else chkL pre a
  | [], b, pre => by simp [chkL]
  | l :: a, b, pre => by
    rw [List.cons_append, chkL, chkL]
    by_cases h1 : one l = false
    · simp [h1]
    · by_cases h2 : l ∈ pre
      · simp [h1, h2]
      · rw [if_neg h1, if_neg h1, if_neg h2, if_neg h2, chkL_append a b (pre ++ [l])]
        simp

theorem chkL_zero : ∀ (a pre : List (Int × Int)), (∀ l ∈ a, one l = true) → (pre ++ a).Nodup → chkL pre a = 0
  | [], pre, _, _ => by simp [chkL]
  | l :: a, pre, h, hn => by
    have h1 := h l (by simp)
    have hn' : (pre ++ [l] ++ a).Nodup := by simpa using hn
    have h2 : l ∉ pre := by
      rw [List.nodup_append] at hn
      intro q
      exact hn.2.2 l q l (by simp) rfl
    rw [chkL, if_neg (by simp [h1]), if_neg h2]
    exact chkL_zero a (pre ++ [l]) (fun x hx => h x (by simp [hx])) hn'

theorem one_lcases : ∀ l ∈ lcases, one l = true := by decide

theorem cfgL_good : ∀ (ns : List Int) (acc : List (Int × Int)), acc.Nodup → (∀ l ∈ acc, l ∈ lcases) → acc.length ≤ 4 → (cfgL ns acc).Nodup ∧ (∀ l ∈ cfgL ns acc, l ∈ lcases) ∧ (cfgL ns acc).length ≤ 4
  | [], acc, h1, h2, h3 => by rw [cfgL]; exact ⟨h1, h2, h3⟩
  | n :: r, acc, h1, h2, h3 => by
    rw [cfgL]
    split
    · rename_i hlt
      split
      · exact cfgL_good r acc h1 h2 h3
      · rename_i hm
        refine cfgL_good r _ ?_ ?_ (by simp; omega)
        · rw [List.nodup_append]
          exact ⟨h1, by simp, fun x hx y hy => by simp at hy; subst hy; intro e; exact hm (e ▸ hx)⟩
        · intro l hl
          rcases List.mem_append.1 hl with hl | hl
          · exact h2 l hl
          · simp at hl; subst hl; exact lab_mem n
    · exact ⟨h1, h2, h3⟩

theorem cfgLs_good (ns : List Int) : (cfgLs ns).Nodup ∧ (∀ l ∈ cfgLs ns, l ∈ lcases) ∧ 1 ≤ (cfgLs ns).length ∧ (cfgLs ns).length ≤ 4 := by
  have h := cfgL_good ns [] (by simp) (by simp) (by simp)
  rw [cfgLs]
  split
  · exact ⟨by simp, by simp [lcases], by simp, by simp⟩
  · rename_i hne
    exact ⟨h.1, h.2.1, List.length_pos_iff.2 hne, h.2.2⟩

theorem check_config (s p : Int) (ns : List Int) (hs : 0 ≤ s ∧ s < 3) (hp : 0 ≤ p ∧ p < 4) : check (1 + s) (cfgLs ns) (1 + p) = 0 := by
  have h := cfgLs_good ns
  have hz := chkL_zero (cfgLs ns) [] (fun l hl => one_lcases l (h.2.1 l hl)) (by simpa using h.1)
  rw [check, if_neg (by omega), if_neg (by omega), if_pos hz, if_neg (by omega)]

theorem check_twice (s p : Int) (ns : List Int) (l : Int × Int) (hl : l ∈ cfgLs ns) (hs : 0 ≤ s ∧ s < 3) : check (1 + s) (cfgLs ns ++ [l]) p = 7 := by
  have h := cfgLs_good ns
  have hz := chkL_zero (cfgLs ns) [] (fun l hl => one_lcases l (h.2.1 l hl)) (by simpa using h.1)
  have h7 : chkL [] (cfgLs ns ++ [l]) = 7 := by
    rw [chkL_append, if_pos hz, chkL, if_neg (by simp [one_lcases l (h.2.1 l hl)]), if_pos (by simpa using hl)]
  rw [check, if_neg (by omega), if_neg (by simp; omega), if_neg (by rw [h7]; decide), h7]

def sp_ConfigGood : Sp := { pre := fun ds => ∃ s ns p, ds = [.int .i64 s, intsD ns, .int .i64 p] ∧ inR .i64 s ∧ okInts ns ∧ inR .i64 p, F := fun _ => .bool true }

section
variable {T : Tb}
theorem v_ConfigGood (h1 : T.sp n_reredoskeep_Config = some sp_Config) (h2 : T.sp n_label_Check = some sp_Check) : Verified T ir_reredoskeep_ConfigGood sp_ConfigGood := by
  refine Verified.mk ?_
  rintro ds ⟨s, ns, p, rfl, hs, hns, hp⟩
  have b1 := pk_bounds s 3 (by decide)
  have b2 := pk_bounds p 4 (by decide)
  have c1 := check_config (pk s 3) (pk p 4) ns b1 b2
  have c2 := fun l hl => check_twice (pk s 3) (1 + pk p 4) ns l hl b1
  have c3 : check 0 [] 0 = 2 := by decide
  have hg := cfgLs_good ns
  have e4 : sp_Config.pre [.int .i64 s, .fz 1 (ns.map ic), .int .i64 p] = True := by simp [sp_Config]; exact ⟨s, ns, p, ⟨rfl, rfl, rfl⟩, hs, hns, hp⟩
  have e3 : sp_Config.F [.int .i64 s, .fz 1 (ns.map ic), .int .i64 p] = cfgD (1 + pk s 3) (cfgLs ns) (1 + pk p 4) := by simp [sp_Config, intsOf, intOf_ic]
  generalize cfgLs ns = ls at c1 c2 hg e3
  obtain ⟨l, r, rfl⟩ : ∃ l r, ls = l :: r := by
    cases ls with
    | nil => simp at hg
    | cons l r => exact ⟨l, r, rfl⟩
  have c2' := c2 l (by simp)
  have hlen : r.length ≤ 3 := by have := hg.2.2.2; simp at this; omega
  simp [k_seq, k_block, k_skip, k_reg, k_alt, k_cond, k_exit, k_ret, kf_nil, kf_seq_n, kf_seq_e, kf_seq_r, kf_blk_n, kf_blk_e, kf_blk_r, kf_lp_n, kf_lp_e, kf_lp_r, kf_cut_n, kf_cut_e, kf_cut_r, mkTm, VCops, VCalt, istep, act, gd, applyE, wrapD, Opd.ev, St.get, St.set, D.un, D.gu, gus, IOp.opds, binD, fnPost, getRes, IRes.get, oneRes, D.out, outL, D.clos, closL, D.norow, norowL, D.lv, lvL, D.scal, scalL, D.cells, D.cell, D.cell', St.lk, obPut, obDel, List.lookup, cut, pickD, splice, fillParts, fillRows, elem_cons, newsOf, D.pl, D.forget, forgetL, Ob.forget, forgetO, eqCells, sg, leD, leDL, leOb, apartK, St.le, ir_reredoskeep_ConfigGood, h1, h2, e3, e4, c1, intsD, sp_ConfigGood, cfgD, sp_Check, isCfg, isLb, isLb_lbc, cfgOf, lbL_lbc, lbc, lbL, lbOf, c3]
  exact ⟨by omega, by omega, c2'⟩

def home (s : Int) (ls : List (Int × Int)) (p k : Int) : Int × Int :=
  if check s ls p ≠ 0 then (0, check s ls p) else if k < 0 ∨ 8 ≤ k then (0, 2) else (k.tmod s, 0)
def sp_Home : Sp := { pre := fun ds => ∃ x k, ds = [x, .int .i64 k] ∧ isCfg x = true, F := fun | [x, .int _ k] => .tup [.int .i64 (home (cfgOf x).1 (cfgOf x).2.1 (cfgOf x).2.2 k).1, .int .i64 (home (cfgOf x).1 (cfgOf x).2.1 (cfgOf x).2.2 k).2] | _ => .any }

theorem check_sites {s p : Int} {ls : List (Int × Int)} (h : check s ls p = 0) : 1 ≤ s ∧ s ≤ 4 := by
  rw [check] at h
  split at h
  · cases h
  · omega

theorem v_Home (h2 : T.sp n_label_Check = some sp_Check) : Verified T ir_label_Home sp_Home := by
  refine Verified.mk ?_
  rintro ds ⟨x, k, rfl, hx⟩
  obtain ⟨s, ls, p, rfl⟩ := isCfg_cfgD hx
  simp only [sp_Home, cfgOf_cfgD]
  simp [k_seq, k_block, k_skip, k_reg, k_alt, k_cond, k_exit, k_ret, kf_nil, kf_seq_n, kf_seq_e, kf_seq_r, kf_blk_n, kf_blk_e, kf_blk_r, kf_lp_n, kf_lp_e, kf_lp_r, kf_cut_n, kf_cut_e, kf_cut_r, mkTm, VCops, VCalt, istep, act, gd, applyE, wrapD, Opd.ev, St.get, St.set, D.un, D.gu, gus, IOp.opds, binD, fnPost, getRes, IRes.get, oneRes, D.out, outL, D.clos, closL, D.norow, norowL, D.lv, lvL, D.scal, scalL, D.cells, D.cell, D.cell', St.lk, obPut, obDel, List.lookup, cut, pickD, splice, fillParts, fillRows, elem_cons, newsOf, D.pl, D.forget, forgetL, Ob.forget, forgetO, eqCells, sg, leD, leDL, leOb, apartK, St.le, ir_label_Home, h2, cfgD, sp_Check, isCfg, isLb_lbc, cfgOf, lbL_lbc, and_assoc]
  refine ⟨fun q => by simp [home, q], fun q => ⟨fun g => by simp [home, q, g], fun g1 g2 => ⟨by have := check_sites q; omega, ?_⟩⟩⟩
  rw [home, if_neg (by simp [q]), if_neg (by omega)]
  simp

theorem home_mod (K S : Int) (hK : 0 ≤ K ∧ K < 8) (hS : 0 ≤ S ∧ S < 3) : 0 ≤ K.tmod (1 + S) ∧ K.tmod (1 + S) < 1 + S ∧ (K - K.tmod (1 + S)).tmod (1 + S) = 0 := by
  have d : ∀ K : Fin 8, ∀ S : Fin 3, 0 ≤ (K.val : Int).tmod (1 + S.val) ∧ (K.val : Int).tmod (1 + S.val) < 1 + S.val ∧ ((K.val : Int) - (K.val : Int).tmod (1 + S.val)).tmod (1 + S.val) = 0 := by decide
  have := d ⟨K.toNat, by omega⟩ ⟨S.toNat, by omega⟩
  simp only at this
  rw [Int.toNat_of_nonneg hK.1, Int.toNat_of_nonneg hS.1] at this
  exact this

def sp_HomeOne : Sp := { pre := fun ds => ∃ s ns p k, ds = [.int .i64 s, intsD ns, .int .i64 p, .int .i64 k] ∧ inR .i64 s ∧ okInts ns ∧ inR .i64 p ∧ inR .i64 k, F := fun _ => .bool true }

theorem v_HomeOne (h1 : T.sp n_reredoskeep_Config = some sp_Config) (h2 : T.sp n_label_Home = some sp_Home) (h3 : T.sp n_reredoskeep_picked = some sp_picked) : Verified T ir_reredoskeep_HomeOne sp_HomeOne := by
  refine Verified.mk ?_
  rintro ds ⟨s, ns, p, k, rfl, hs, hns, hp, hk⟩
  have b1 := pk_bounds s 3 (by decide)
  have b2 := pk_bounds p 4 (by decide)
  have b3 := pk_bounds k 8 (by decide)
  have c1 := check_config (pk s 3) (pk p 4) ns b1 b2
  have e4 : sp_Config.pre [.int .i64 s, .fz 1 (ns.map ic), .int .i64 p] = True := by simp [sp_Config]; exact ⟨s, ns, p, ⟨rfl, rfl, rfl⟩, hs, hns, hp⟩
  have e3 : sp_Config.F [.int .i64 s, .fz 1 (ns.map ic), .int .i64 p] = cfgD (1 + pk s 3) (cfgLs ns) (1 + pk p 4) := by simp [sp_Config, intsOf, intOf_ic]
  generalize cfgLs ns = ls at c1 e3
  have e5 : home (1 + pk s 3) ls (1 + pk p 4) (pk k 8) = ((pk k 8).tmod (1 + pk s 3), 0) := by rw [home, if_neg (by simp [c1]), if_neg (by omega)]
  have e6 : home (1 + pk s 3) ls (1 + pk p 4) (8 + pk k 8) = (0, 2) := by rw [home, if_neg (by simp [c1]), if_pos (by omega)]
  have hm := home_mod (pk k 8) (pk s 3) b3 b1
  simp [k_seq, k_block, k_skip, k_reg, k_alt, k_cond, k_exit, k_ret, kf_nil, kf_seq_n, kf_seq_e, kf_seq_r, kf_blk_n, kf_blk_e, kf_blk_r, kf_lp_n, kf_lp_e, kf_lp_r, kf_cut_n, kf_cut_e, kf_cut_r, mkTm, VCops, VCalt, istep, act, gd, applyE, wrapD, Opd.ev, St.get, St.set, D.un, D.gu, gus, IOp.opds, binD, fnPost, getRes, IRes.get, oneRes, D.out, outL, D.clos, closL, D.norow, norowL, D.lv, lvL, D.scal, scalL, D.cells, D.cell, D.cell', St.lk, obPut, obDel, List.lookup, cut, pickD, splice, fillParts, fillRows, elem_cons, newsOf, D.pl, D.forget, forgetL, Ob.forget, forgetO, eqCells, sg, leD, leDL, leOb, apartK, St.le, ir_reredoskeep_HomeOne, h1, h2, h3, e3, e4, e5, e6, intsD, sp_HomeOne, cfgD, sp_Home, isCfg, isLb_lbc, cfgOf, lbL_lbc, sp_picked, and_assoc, hm]
  refine ⟨hk, by simp only [inR]; omega, ?_, ?_⟩
  · simp only [inR]; omega
  · omega
end
end Go.Proofs.Ythnnbhjdmnegfaa
