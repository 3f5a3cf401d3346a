/-
  StoreGood answers true on data. Conditions: those of its specification's 'pre', and that the functions that are called are what theirs say.
-/
import Derived.Test.YtjilpdgpdpibkaaStI
set_option linter.unusedVariables false
set_option linter.unusedSimpArgs false
namespace Go.Proofs.Ytjilpdgpdpibkaa
open Go Go.Vcg

theorem store_F (l : List Rw) (m : Nat) : sp_Store.F [rawsD l, .int .i64 (m : Int)] = .agg (stoC (storeK l m)) := by
  have e : sp_Store.F [rawsD l, .int .i64 (m : Int)] = stoD (storeK (rawsOf (rawsD l)) (m : Int).toNat) := rfl
  rw [e, rawsOf_rawsD, Int.toNat_natCast]
  rfl
theorem store_pre {l : List Rw} (h : okRaws l) {m : Nat} (hm : m ≤ 100) : sp_Store.pre [rawsD l, .int .i64 (m : Int)] = True := by
  simp only [sp_Store, eq_iff_iff, iff_true]; exact ⟨l, m, rfl, h, by omega⟩
theorem chk_F' {s : Sto} (h : OkS s) : sp_SCheck.F [.agg (stoC s)] = .int .i64 0 := by
  rw [chk_F, if_pos ((okS_iff s).2 h)]
theorem fewS_of {s : Sto} {n : Nat} (h : fewN s n) (hn : n ≤ 100) : fewS s := fewS'_fewS (fewN_fewS' h hn)
theorem good_plain {s : Sto} (h : InvK 40 s) : readS s (3, 9) 7 = (addL s ⟨3, 9, 7, false, 0, 0⟩, 0, 0, 0) ∧ OkS (addL s ⟨3, 9, 7, false, 0, 0⟩) := by
  have hk : ∀ x ∈ s.locks, x.key ≠ 7 := by
    intro x hx
    have := (h.lks x hx).1.2.1
    omega
  have hb : (s.locks.any fun x => decide (x.key = 7) && x.wr) = false := by
    rw [List.any_eq_false]
    intro x hx
    simp [hk x hx]
  have hi : itemAt s.items 7 = ⟨7, 0, 0⟩ := itemAt_none fun x hx => by
    have := (h.its x hx).2.1
    omega
  refine ⟨?_, ?_⟩
  · rw [read_new h (by simp) (by simp) (by simp), hb, hi]; rfl
  · exact okS_addL h (by simp) (by simp) (by simp [lkR]) (by simpa using hb)
def sp_StoreGood : Sp := { pre := fun ds => ∃ l : List Rw, ds = [rawsD l] ∧ okRaws l, F := fun _ => .bool true }
section
variable {T : Tb}
attribute [local simp] k_seq k_block k_skip k_reg k_alt k_cond k_exit k_ret kf_nil kf_seq_n kf_seq_e kf_seq_r kf_blk_n kf_blk_e kf_blk_r kf_lp_n kf_lp_e kf_lp_r kf_cut_n kf_cut_e kf_cut_r mkTm VCops VCalt istep act gd applyE wrapD Opd.ev get_mk set_mk set_mk0 tget16 tset16 tget_0 tset_0 tget_1 tset_1 tget_2 tset_2 tget_3 tset_3 tget_4 tset_4 tget_5 tset_5 tget_6 tset_6 tget_7 tset_7 tget_8 tset_8 tget_9 tset_9 tget_10 tset_10 tget_11 tset_11 tget_12 tset_12 tget_13 tset_13 tget_14 tset_14 tget_15 tset_15 D.un D.gu gus IOp.opds binD fnPost getRes IRes.get oneRes D.out outL D.clos closL D.norow norowL D.lv lvL D.scal scalL D.cells D.cell D.cell' St.lk obPut obDel List.lookup cut pickD splice fillParts fillRows elem_cons newsOf D.pl D.forget forgetL Ob.forget forgetO eqCells sg leD leDL leOb apartK St.le D.keys keysL D.rows rowsL obKeys addKeys reach pos D.ren renL Ob.ren inM outM inObs outObs goneK apartN okNames_eq okNms obNms namesOK_nil namesOK_cons freeOK_nil freeOK_cons D.frz frzL Ob.frz frzO St.frz forgetLs dropObs putObs hcall freeOf keeps baseN shD isShift shMax k_bad VCopsG frz_nil actx actc cnum vwCut St.frzT St.opnT St.clsT D.opn opnL Ob.opn opnO
set_option maxRecDepth 100000 in
set_option maxHeartbeats 8000000 in
theorem v_StoreGood (h1 : T.sp n_reredoskeep_Store = some sp_Store) (h2 : T.sp n_store_Read = some sp_Read) (h3 : T.sp n_store_Check = some sp_SCheck) : Verified T ir_reredoskeep_StoreGood sp_StoreGood := by
  refine Verified.mk ?_
  rintro ds ⟨l, rfl, hl⟩
  have x1 : sp_Store.hx = none := rfl
  have x2 : sp_Read.hx = none := rfl
  have x3 : sp_SCheck.hx = none := rfl
  have f1 : sp_Store.F [.fz 6 (l.map rawC), .int .i64 40] = _ := store_F l 40
  have p1 : sp_Store.pre [.fz 6 (l.map rawC), .int .i64 40] = True := store_pre hl (m := 40) (by decide)
  have hI := invK_store l (m := 40) (by decide)
  have hF := fewN_store l 40
  generalize storeK l 40 = s at f1 hI hF
  obtain ⟨g1, g2⟩ := good_plain hI
  have hl1 : (addL s ⟨3, 9, 7, false, 0, 0⟩).locks.length = s.locks.length + 1 := by simp [addL]
  have hl2 := few20 hI
  have hF2 : fewN (addL s ⟨3, 9, 7, false, 0, 0⟩) 41 := by
    have := fewN_read hF (3, 9) 7
    rw [g1] at this; exact this
  have f2 := read_F s (3, 9) 7
  have p2 := read_pre (fewN_fewS' hF (by decide)) (3, 9) 7
  rw [g1] at f2
  generalize addL s ⟨3, 9, 7, false, 0, 0⟩ = u at f2 g2 hl1 hF2
  have f3 := chk_F' hI.ok
  have p3 := chk_pre (fewS_of hF (by decide))
  have f4 := chk_F' g2
  have p4 := chk_pre (fewS_of hF2 (by decide))
  have hl3 : (u.locks.length : Int) = s.locks.length + 1 := by omega
  clear hI hF hF2 g1 g2
  obtain ⟨a, b, c, d⟩ := s
  obtain ⟨a', b', c', d'⟩ := u
  simp only [stoC, txC] at f1 f2 p2 f3 p3 f4 p4 hl3 hl2
  simp only [rawsD]
  simp (implicitDefEqProofs := false) (maxSteps := 10000000) [ir_reredoskeep_StoreGood, h1, h2, h3, x1, x2, x3, f1, p1, f2, p2, f3, p3, f4, p4, hl3]
  exact ⟨by simp only [inR]; omega, by simp only [inR]; omega, rfl⟩
end
end Go.Proofs.Ytjilpdgpdpibkaa
