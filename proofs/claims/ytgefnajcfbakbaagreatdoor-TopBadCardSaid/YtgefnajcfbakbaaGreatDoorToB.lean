/-
  A script that may not be is refused, by its place: the law's function says so. Conditions: those of its specification's 'pre', and that the functions that are called are what theirs say.
-/
import Derived.Test.YtgefnajcfbakbaaGreatDoorToA
set_option linter.unusedVariables false
set_option linter.unusedSimpArgs false
namespace Go.Proofs.YtgefnajcfbakbaaGreatDoor
open Go Go.Vcg

def sp_TopBad : Sp := { pre := fun ds => ∃ (s : Int) (ns : List Int) (p : Int) (rs : List Rw) (t : Int), ds = [.int .i64 s, intsD ns, .int .i64 p, rawsD rs, .int .i64 t] ∧ inR .i64 s ∧ okInts ns ∧ inR .i64 p ∧ okRaws rs ∧ inR .i64 t, F := fun _ => .bool true }
def badA : Ac := ⟨9, 0, 0, 0, 0, [], c0, []⟩
def badC : List D := [.int .i64 9, .int .i64 0, .int .i64 0, .int .i64 0, .int .i64 0, .fz 1 [], .int .i64 0, .int .i64 0, .int .i64 0, .int .i64 0, .int .i64 0, .str []]
theorem badC_eq : actC badA = badC := rfl
section
variable {T : Tb}
attribute [local simp] k_seq k_block k_skip k_reg k_alt k_cond k_exit k_ret kf_nil kf_seq_n kf_seq_e kf_seq_r kf_blk_n kf_blk_e kf_blk_r kf_lp_n kf_lp_e kf_lp_r kf_cut_n kf_cut_e kf_cut_r mkTm VCops VCalt istep act gd applyE wrapD Opd.ev get_mk set_mk set_mk0 tget16 tset16 tget_0 tset_0 tget_1 tset_1 tget_2 tset_2 tget_3 tset_3 tget_4 tset_4 tget_5 tset_5 tget_6 tset_6 tget_7 tset_7 tget_8 tset_8 tget_9 tset_9 tget_10 tset_10 tget_11 tset_11 tget_12 tset_12 tget_13 tset_13 tget_14 tset_14 tget_15 tset_15 D.un D.gu gus IOp.opds binD fnPost getRes IRes.get oneRes D.out outL D.clos closL D.norow norowL D.lv lvL D.scal scalL D.cells D.cell D.cell' St.lk obPut obDel List.lookup cut pickD splice fillParts fillRows elem_cons newsOf D.pl D.forget forgetL Ob.forget forgetO eqCells sg leD leDL leOb apartK St.le D.keys keysL D.rows rowsL obKeys addKeys reach pos D.ren renL Ob.ren inM outM inObs outObs goneK apartN okNames_eq okNms obNms namesOK_nil namesOK_cons freeOK_nil freeOK_cons D.frz frzL Ob.frz frzO St.frz forgetLs dropObs putObs hcall freeOf keeps baseN shD isShift shMax k_bad VCopsG frz_nil actx actc cnum vwCut St.frzT St.opnT St.clsT D.opn opnL Ob.opn opnO VCou VCcx St.oneS D.objI D.objK scrL D.scr St.opnS St.clsS D.cellS D.fzs fzsL k_mrk k_mrq IOper.gh
set_option maxRecDepth 100000 in
set_option maxHeartbeats 8000000 in
theorem v_TopBad (h1 : T.sp n_reredoskeep_Config = some sp_Config) (h2 : T.sp n_reredoskeep_Acts = some sp_Acts) (h3 : T.sp n_reredoskeep_Picked = some sp_picked) (h4 : T.sp n_cluster_Run = some sp_Run) : Verified T ir_reredostop_TopBad sp_TopBad := by
  refine Verified.mk ?_
  rintro ds ⟨s, ns, p, rs, t, rfl, hs, hns, hp, hrs, ht⟩
  have hF : sp_TopBad.F [.int .i64 s, intsD ns, .int .i64 p, rawsD rs, .int .i64 t] = .bool true := rfl
  rw [hF]
  have x1 : sp_Config.hx = none := rfl
  have x2 : sp_Acts.hx = none := rfl
  have x3 : sp_picked.hx = none := rfl
  have x4 : sp_Run.hx = none := rfl
  have b1 := pk_bounds s 3 (by decide)
  have b2 := pk_bounds p 4 (by decide)
  have f1 : sp_Config.F [.int .i64 s, intsD ns, .int .i64 p] = cfgD (1 + pk s 3) (cfgLs ns) (1 + pk p 4) := by simp only [sp_Config, intsOf_intsD]
  have p1 : sp_Config.pre [.int .i64 s, intsD ns, .int .i64 p] = True := by simp only [sp_Config, eq_iff_iff, iff_true]; exact ⟨s, ns, p, rfl, hs, hns, hp⟩
  have hck := check_config (pk s 3) (pk p 4) ns b1 b2
  have hlg := cfgLs_good ns
  obtain ⟨_, _, hg1, hg2⟩ := hlg
  have hS : 1 ≤ 1 + pk s 3 ∧ 1 + pk s 3 ≤ 4 := by omega
  generalize 1 + pk s 3 = S at f1 hck hS
  generalize 1 + pk p 4 = P at f1 hck
  generalize cfgLs ns = ls at f1 hck hg1 hg2
  have f2 : sp_Acts.F [cfgD S ls P, rawsD rs, .int .i64 30, .bool true] = .fz 12 ((actsL S ls.length 30 rs []).map actC) := by
    simp only [sp_Acts, cfgOf_cfgD, rawsOf_rawsD]
    rfl
  have p2 : sp_Acts.pre [cfgD S ls P, rawsD rs, .int .i64 30, .bool true] = True := by
    simp only [sp_Acts, eq_iff_iff, iff_true]
    refine ⟨cfgD S ls P, rs, 30, rfl, cfg_is S ls P, ?_, hrs, by decide, by decide⟩
    simp only [cfgOf_cfgD]
    omega
  have hgood := actsL_good S ls.length 30 (by omega) (by omega) rs [] (by simp)
  have hlen := length_actsL S ls.length 30 (by decide) rs [] (by simp)
  generalize actsL S ls.length 30 rs [] = acts at f2 hgood hlen
  have hok : ∀ a ∈ acts, okAc a := fun a ha => actE_keep (hgood a ha) (by omega)
  have b3 := pk_bounds t (acts.length + 1) (by omega)
  have f3 : sp_picked.F [.int .i64 t, .int .i64 (acts.length + 1)] = .int .i64 (pk t (acts.length + 1)) := rfl
  have p3 : sp_picked.pre [.int .i64 t, .int .i64 (acts.length + 1)] = True := by simp only [sp_picked, eq_iff_iff, iff_true]; exact ⟨_, _, rfl, ht, by omega⟩
  generalize pk t (acts.length + 1) = kk at f3 b3
  obtain ⟨k, rfl⟩ : ∃ k : Nat, kk = k := ⟨kk.toNat, by omega⟩
  have hk : k ≤ acts.length := by omega
  have hbad : actE S ls.length badA = 3 := by unfold actE; rw [if_pos (Or.inr (by decide))]
  have hsplit : (acts.map actC).take k ++ badC :: (acts.map actC).drop k = (acts.take k ++ badA :: acts.drop k).map actC := by
    rw [List.map_append, List.map_cons, badC_eq, List.map_take, List.map_drop]
  have f5 := run_F S ls P ((acts.map actC).take k ++ badC :: (acts.map actC).drop k)
  have hbl : ((acts.map actC).take k ++ badC :: (acts.map actC).drop k).length ≤ 1004 := by
    simp only [List.length_append, List.length_cons, List.length_take, List.length_drop, List.length_map]; omega
  have p5 := run_pre (S := S) (ls := ls) (P := P) (es := (acts.map actC).take k ++ badC :: (acts.map actC).drop k) (by omega) (.inr (.inr ⟨hck, by omega, acts.take k, badA, acts.drop k, hsplit, fun a ha => ⟨hgood a (List.mem_of_mem_take ha), hok a (List.mem_of_mem_take ha)⟩, by rw [hbad]; decide, by simp [okAc, badA]⟩))
  have e5 : runT S ls P ((acts.map actC).take k ++ badC :: (acts.map actC).drop k) = ((k : Int), 3) := by
    unfold runT
    rw [if_neg (fun h => h hck), if_neg (by omega), hsplit, List.map_map]
    have : actL ∘ actC = id := funext actL_actC
    rw [this, List.map_id, badAt_mid (by rw [hbad]; decide) _ 0 (fun a ha => hgood a (List.mem_of_mem_take ha)), hbad, List.length_take]
    congr 2
    omega
  rw [e5] at f5
  have f6 := run_F 0 [] 0 (acts.map actC)
  have hc0 : check 0 [] 0 = 2 := by decide
  have p6 := run_pre (S := 0) (ls := []) (P := 0) (es := acts.map actC) (by rw [List.length_map]; omega) (.inl (by rw [hc0]; decide))
  have e6 : runT 0 [] 0 (acts.map actC) = (0, 2) := by unfold runT; rw [if_pos (by rw [hc0]; decide), hc0]
  rw [e6] at f6
  generalize hz : ([.int .i64 0, .int .i64 0, .int .i64 0, .int .i64 0, .int .i64 0, .fz 1 [], .int .i64 0, .int .i64 0, .int .i64 0, .int .i64 0, .int .i64 0, .str []] : List D) = zc
  have hrl : (List.replicate 3001 zc).length = 3001 := List.length_replicate
  have f7 := run_F S ls P (List.replicate 3001 zc)
  have p7 := run_pre (S := S) (ls := ls) (P := P) (es := List.replicate 3001 zc) (by rw [hrl]; omega) (.inr (.inl ⟨hck, by rw [hrl]; omega⟩))
  have e7 : runT S ls P (List.replicate 3001 zc) = (0, 1) := by unfold runT; rw [if_neg (fun h => h hck), if_pos (by rw [hrl]; omega)]
  rw [e7] at f7
  clear e5 e6 e7 hsplit hgood hok hrl
  have hlm : (acts.map actC).length = acts.length := List.length_map ..
  have hlm2 : ((acts.map actC).length : Int) = acts.length := by rw [hlm]
  generalize hes : acts.map actC = es at *
  have hkt : (es.take k).length = k := by rw [List.length_take]; omega
  have hke : (k : Int) ≤ es.length := by omega
  have hes1 : (es.length : Int) ≤ 1003 := by omega
  generalize hcs : ls.map lbc = cs
  simp only [cfgD, hcs, intsD, rawsD, badC, List.map_nil] at f1 p1 f2 p2 f5 p5 f6 p6 f7 p7 hbl ⊢
  have hr84 : List.replicate 84 D.any = [.any, .any, .any, .any, .any, .any, .any, .any, .any, .any, .any, .any, .any, .any, .any, .any, .any, .any, .any, .any, .any, .any, .any, .any, .any, .any, .any, .any, .any, .any, .any, .any, .any, .any, .any, .any, .any, .any, .any, .any, .any, .any, .any, .any, .any, .any, .any, .any, .any, .any, .any, .any, .any, .any, .any, .any, .any, .any, .any, .any, .any, .any, .any, .any, .any, .any, .any, .any, .any, .any, .any, .any, .any, .any, .any, .any, .any, .any, .any, .any, .any, .any, .any, .any] := rfl
  simp (implicitDefEqProofs := false) (maxSteps := 10000000) [-List.reduceReplicate, hr84, ir_reredostop_TopBad, h1, x1, f1, p1, h2, x2, f2, p2, h3, x3, f3, p3, h4, x4, f5, p5, f6, p6, f7, p7, hlm2, hke, hz]
  exact ⟨by simp only [inR]; omega, by omega, by omega⟩
end
end Go.Proofs.YtgefnajcfbakbaaGreatDoor
