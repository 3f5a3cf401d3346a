/-
  Messages on their way: net.Take. Conditions: those of its specification's 'pre', and that the functions that are called are what theirs say.
-/
import Derived.Test.YtopdccbcknlepaaDoorNtC
set_option linter.unusedVariables false
set_option linter.unusedSimpArgs false
namespace Go.Proofs.YtopdccbcknlepaaDoor
open Go Go.Vcg

def ms0 : Ms := ⟨0, 0, 0, 0, 0, 0, 0, 0, 0, 0, false, 0⟩
def takeF (S : Int) (fs : List (List Ms)) (a b p k : Int) : List (List Ms) × Ms × Int :=
  let i := (a * S + b).toNat
  let q := fs.getD i []
  let j := (p.tmod q.length).toNat
  if q.length = 0 then ([], ms0, 6) else
  if k = 4 ∧ q.length = 30 then ([], ms0, 8) else
  if k = 4 then (fs.set i (q ++ [q.getD j ms0]), q.getD j ms0, 0) else (fs.set i (delE q j), q.getD j ms0, 0)
def takeD (r : List (List Ms) × Ms × Int) : D := .tup [.fz 1 (r.1.map flyF), msgD r.2.1, .int .i64 r.2.2]
def sp_NTake : Sp := { pre := fun ds => ∃ (S : Int) (ls : List (Int × Int)) (P : Int) (fs : List (List Ms)) (a b p k : Int), ds = [cfgD S ls P, .fz 1 (fs.map flyF), .int .i64 a, .int .i64 b, .int .i64 p, .int .i64 k] ∧ okFly S ls P fs ∧ (0 ≤ a ∧ a < S) ∧ (0 ≤ b ∧ b < S) ∧ (0 ≤ p ∧ p ≤ 1048576) ∧ 2 ≤ k ∧ k ≤ 4, F := fun | [x, .fz _ es, .int _ a, .int _ b, .int _ p, .int _ k] => takeD (takeF (cfgOf x).1 (es.map flyOf) a b p k) | _ => .any }
theorem NTake_pre {S P : Int} {ls : List (Int × Int)} {fs : List (List Ms)} {a b p k : Int} (h : okFly S ls P fs) (h1 : 0 ≤ a ∧ a < S) (h2 : 0 ≤ b ∧ b < S) (h3 : 0 ≤ p ∧ p ≤ 1048576) (h4 : 2 ≤ k ∧ k ≤ 4) : sp_NTake.pre [cfgD S ls P, .fz 1 (fs.map flyF), .int .i64 a, .int .i64 b, .int .i64 p, .int .i64 k] = True := by
  simp only [sp_NTake, eq_iff_iff, iff_true]; exact ⟨S, ls, P, fs, a, b, p, k, rfl, h, h1, h2, h3, h4⟩
theorem NTake_F (S P : Int) (ls : List (Int × Int)) (fs : List (List Ms)) (a b p k : Int) : sp_NTake.F [cfgD S ls P, .fz 1 (fs.map flyF), .int .i64 a, .int .i64 b, .int .i64 p, .int .i64 k] = takeD (takeF S fs a b p k) := by
  simp only [sp_NTake, cfgOf_cfgD, flyOf_map]
theorem all_msgC (l : List Ms) : ((l.map msgC).all fun e => e.all D.cell) = true := by
  rw [List.all_eq_true]
  intro e he
  obtain ⟨x, _, rfl⟩ := List.mem_map.1 he
  rfl
theorem delE_map {α β : Type} (f : α → β) (l : List α) (i : Nat) : delE (l.map f) i = (delE l i).map f := by
  simp [delE, List.map_take, List.map_drop]

theorem outE_set (fs : List (List Ms)) (i : Nat) (l : List Ms) : outE ((fs.map flyS).set i [.sub 12 (l.map msgC)]) = (fs.map flyF).set i (flyF l) := by
  have : [D.sub 12 (l.map msgC)] = flyS l := rfl
  rw [this, ← List.map_set, outE_fly, List.map_set]
section
variable {T : Tb}
attribute [local simp] k_seq k_block k_skip k_reg k_alt k_cond k_exit k_ret kf_nil kf_seq_n kf_seq_e kf_seq_r kf_blk_n kf_blk_e kf_blk_r kf_lp_n kf_lp_e kf_lp_r kf_cut_n kf_cut_e kf_cut_r mkTm VCops VCalt istep act gd applyE wrapD Opd.ev get_mk set_mk set_mk0 tget16 tset16 tget_0 tset_0 tget_1 tset_1 tget_2 tset_2 tget_3 tset_3 tget_4 tset_4 tget_5 tset_5 tget_6 tset_6 tget_7 tset_7 tget_8 tset_8 tget_9 tset_9 tget_10 tset_10 tget_11 tset_11 tget_12 tset_12 tget_13 tset_13 tget_14 tset_14 tget_15 tset_15 D.un D.gu gus IOp.opds binD fnPost getRes IRes.get oneRes D.out outL D.clos closL D.norow norowL D.lv lvL D.scal scalL D.cells D.cell D.cell' St.lk obPut obDel List.lookup cut pickD splice fillParts fillRows elem_cons newsOf D.pl D.forget forgetL Ob.forget forgetO eqCells sg leD leDL leOb apartK St.le D.keys keysL D.rows rowsL obKeys addKeys reach pos D.ren renL Ob.ren inM outM inObs outObs goneK apartN okNames_eq okNms obNms namesOK_nil namesOK_cons freeOK_nil freeOK_cons D.frz frzL Ob.frz frzO St.frz forgetLs dropObs putObs hcall freeOf keeps baseN shD isShift shMax k_bad VCopsG frz_nil actx actc cnum vwCut St.frzT St.opnT St.clsT D.opn opnL Ob.opn opnO VCou VCcx St.oneS D.objI D.objK scrL D.scr St.opnS St.clsS D.cellS D.fzs fzsL k_mrk IOper.gh
set_option maxRecDepth 100000 in
set_option maxHeartbeats 16000000 in
theorem v_NTake (h1 : T.sp n_net_Check = some sp_NCheck) (h3 : T.sp n_net_own = some sp_NOwn) (h4 : T.sp n_slices_Delete_reredos_api_Message_reredos_api_Message = some (sp_Del 12)) : Verified T ir_net_Take sp_NTake := by
  refine Verified.mk ?_
  rintro ds ⟨S, ls, P, fs, a, b, p, k, rfl, hf, ha, hb, hp, hk⟩
  rw [NTake_F]
  have x1 : sp_NCheck.hx = none := rfl
  have x3 : sp_NOwn.hx = some hs_NOwn := rfl
  have x4 : (sp_Del 12).hx = some (hs_Del 12) := rfl
  have f1 := NCheck_F
  have p1 := NCheck_pre hf
  have p3 := NOwn_pre (fs := fs) (by have := hf.le; omega) (by
    intro q hq
    obtain ⟨i, hi, rfl⟩ := List.getElem_of_mem hq
    have := (hf.q i hi).1
    omega)
  have f3 := NOwn_F fs
  simp only [cfgD] at p1
  have hS := hf.sites
  have hlen := hf.len
  have hle16 := hf.le
  obtain ⟨w1, w2, _, _⟩ := way_ok hS ha hb
  obtain ⟨i, hi⟩ : ∃ i : Nat, a * S + b = i := ⟨(a * S + b).toNat, by omega⟩
  rw [hi] at w1 w2
  have hlt : i < fs.length := by omega
  have hi1 : (i : Int) < fs.length := by omega
  have hel := elem_map flyS fs i hlt
  have hq := (hf.q i hlt).1
  have hgd : fs.getD i [] = fs[i] := by simp [List.getD, hlt]
  have htk : takeF S fs a b p k = if fs[i].length = 0 then ([], ms0, 6) else if k = 4 ∧ fs[i].length = 30 then ([], ms0, 8) else if k = 4 then (fs.set i (fs[i] ++ [fs[i].getD (p.tmod fs[i].length).toNat ms0]), fs[i].getD (p.tmod fs[i].length).toNat ms0, 0) else (fs.set i (delE fs[i] (p.tmod fs[i].length).toNat), fs[i].getD (p.tmod fs[i].length).toNat ms0, 0) := by
    simp only [takeF, hi, Int.toNat_natCast, hgd]
  generalize fs[i] = q at hel hq hgd htk
  simp only [flyS] at hel
  have e1 : ¬ a < 0 := by omega
  have e2 : ¬ S ≤ a := by omega
  have e3 : ¬ b < 0 := by omega
  have e4 : ¬ S ≤ b := by omega
  have e5 : ¬ p < 0 := by omega
  have hin1 : inR .i64 (a * S) ∧ inR .i64 (i : Int) := by
    have h0 : 0 ≤ a * S := Int.mul_nonneg ha.1 (by omega)
    simp only [inR]; omega
  have hk' : k = 2 ∨ k = 3 ∨ k = 4 := by omega
  by_cases hq0 : q.length = 0
  · have hq0' : q = [] := List.eq_nil_of_length_eq_zero hq0
    subst hq0'
    rw [if_pos (show ([] : List Ms).length = 0 from rfl)] at htk
    rw [htk]
    rcases hk' with rfl | rfl | rfl <;>
    simp (implicitDefEqProofs := false) (maxSteps := 10000000) [ir_net_Take, cfgD, takeD, msgD, msgC, ms0, h1, x1, f1, p1, h3, x3, p3, f3, e1, e2, e3, e4, e5, hi, hin1.1, hin1.2, hi1, hlt, hel]
  · rw [if_neg hq0] at htk
    have hqn : ¬ q = [] := fun h => hq0 (by rw [h]; rfl)
    have hm := Int.tmod_nonneg (q.length : Int) hp.1
    have hm2 := Int.tmod_lt_of_pos p (show (0 : Int) < q.length by omega)
    obtain ⟨j, hj⟩ : ∃ j : Nat, p.tmod q.length = j := ⟨(p.tmod q.length).toNat, by omega⟩
    rw [hj] at hm hm2
    have hjl : j < q.length := by omega
    have hj1 : (j : Int) < q.length := hm2
    have hel2 := elem_map msgC q j hjl
    simp only [hj, Int.toNat_natCast] at htk
    have hqd : q.getD j ms0 = q[j] := by simp [List.getD, hjl]
    rw [hqd] at htk
    have p4 := Del_pre (sz := 12) (es := q.map msgC) (i := j) (by simpa using hjl) (by simp; omega) (all_msgC q)
    have f4 := Del_F 12 (q.map msgC) j (.int .i64 (j + 1 : Int))
    rw [delE_map] at f4
    generalize q[j] = m at hel2 htk
    obtain ⟨m1, m2, m3, m4, m5, m6, m7, m8, m9, m10, m11, m12⟩ := m
    simp only [msgC] at hel2
    have hr1 : (q.length : Int) ≠ 0 := by omega
    have hr2 : ¬ (q.length : Int) = 0 := by omega
    rcases hk' with rfl | rfl | rfl
    · rw [if_neg (by omega), if_neg (by omega)] at htk
      rw [htk]
      simp (implicitDefEqProofs := false) (maxSteps := 10000000) [ir_net_Take, cfgD, takeD, msgD, msgC, ms0, h1, x1, f1, p1, h3, x3, p3, f3, h4, x4, p4, f4, e1, e2, e3, e4, e5, hi, hin1.1, hin1.2, hi1, hlt, hel, hq0, hqn, hr1, hj, hj1, hjl, hel2]
      exact ⟨by simp only [inR]; omega, outE_set fs i _⟩
    · rw [if_neg (by omega), if_neg (by omega)] at htk
      rw [htk]
      simp (implicitDefEqProofs := false) (maxSteps := 10000000) [ir_net_Take, cfgD, takeD, msgD, msgC, ms0, h1, x1, f1, p1, h3, x3, p3, f3, h4, x4, p4, f4, e1, e2, e3, e4, e5, hi, hin1.1, hin1.2, hi1, hlt, hel, hq0, hqn, hr1, hj, hj1, hjl, hel2]
      exact ⟨by simp only [inR]; omega, outE_set fs i _⟩
    · by_cases h30 : q.length = 30
      · rw [if_pos ⟨rfl, h30⟩] at htk
        rw [htk]
        have h30' : (q.length : Int) = 30 := by omega
        have hj30 : p.tmod 30 = j := by rw [← h30']; exact hj
        simp (implicitDefEqProofs := false) (maxSteps := 10000000) [ir_net_Take, cfgD, takeD, msgD, msgC, ms0, h1, x1, f1, p1, h3, x3, p3, f3, h4, x4, p4, f4, e1, e2, e3, e4, e5, hi, hin1.1, hin1.2, hi1, hlt, hel, hq0, hqn, hr1, hj, hj1, hjl, hel2, h30', hj30]
        omega
      · rw [if_neg (fun h => h30 h.2), if_pos rfl] at htk
        rw [htk]
        have h30' : ¬ (q.length : Int) = 30 := by omega
        simp (implicitDefEqProofs := false) (maxSteps := 10000000) [ir_net_Take, cfgD, takeD, msgD, msgC, ms0, h1, x1, f1, p1, h3, x3, p3, f3, h4, x4, p4, f4, e1, e2, e3, e4, e5, hi, hin1.1, hin1.2, hi1, hlt, hel, hq0, hqn, hr1, hj, hj1, hjl, hel2, h30']
        refine ⟨by omega, ?_⟩
        have := outE_set fs i (q ++ [⟨m1, m2, m3, m4, m5, m6, m7, m8, m9, m10, m11, m12⟩])
        simp only [List.map_append, List.map_cons, List.map_nil, msgC] at this
        exact this
end
end Go.Proofs.YtopdccbcknlepaaDoor
