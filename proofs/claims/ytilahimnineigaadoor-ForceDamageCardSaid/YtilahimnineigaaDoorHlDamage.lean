/-
  ForceDamage answers true on data. Conditions: those of its specification's 'pre', and that the functions that are called are what theirs say.
-/
import Derived.Test.YtilahimnineigaaDoorHlDecide
set_option linter.unusedVariables false
set_option linter.unusedSimpArgs false
namespace Go.Proofs.YtilahimnineigaaDoor
open Go Go.Vcg

def sp_ForceDamage : Sp := { pre := fun ds => ∃ (v : Int) (yes word : Bool), ds = [.int .i64 v, .bool yes, .bool word] ∧ inR .i64 v, F := fun _ => .bool true }
theorem damage_plain {V : Int} (hV : 0 ≤ V ∧ V < 99) (yes word : Bool) : ∃ s u, writeS s0 (0, 1) 2 V 1 = (s, 0) ∧ OkS s ∧ fewN s 1 ∧ forceD s [] (0, 1) yes = .tup [.agg (ansC u [] [recC 6 (0, 1) yes] [ntC ⟨0, 1, yes, false⟩]), .int .i64 0] ∧ OkS u ∧ fewN u 2 ∧ (∀ ns, decA u 0 (decM 1 word) ns = (u, [ansM 0 (decM 1 word) 8], if ns.any (dmg (decM 1 word)) = true then [recC 2 (0, 1) word] else [])) := by
  have hnt : noTx s0 (0, 1) := by simp [noTx, s0]
  have hvq : okVQ V 1 := ⟨by omega, by omega, by omega, by omega⟩
  have hw := write_fresh invK_s0 (by decide) (t := (0, 1)) hnt (by simp [overB, s0]) (by decide) (k := 2) (v := V) (q := 1) (by omega) hvq
  have hw' : writeS s0 (0, 1) 2 V 1 = (addL s0 ⟨0, 1, 2, true, V, 1⟩, 0) := by
    rw [hw]
    simp [s0]
  have hI : InvK 0 (addL s0 ⟨0, 1, 2, true, V, 1⟩) := by
    have := invK_write invK_s0 (t := (0, 1)) (k := 2) (v := V) (q := 1) (by simp) (by omega) (by rw [hw'])
    rw [hw'] at this; exact this
  have hF : fewN (addL s0 ⟨0, 1, 2, true, V, 1⟩) 1 := by
    have := fewN_write (fewN_s0 0) (0, 1) 2 V 1
    rw [hw'] at this; exact this
  have hn : wrN (addL s0 ⟨0, 1, 2, true, V, 1⟩).locks (0, 1) = 1 := by simp [addL, s0, wrN, isTx]
  have h1 := writes_of hI.ok (t := (0, 1)) (by decide)
  rw [hn] at h1
  obtain ⟨u, hp, hu, hag, h0, -⟩ := end_again hI (by decide) (t := (0, 1)) (by simp) yes
  have h2 := writes_of hu (t := (0, 1)) (by decide)
  rw [h0] at h2
  have hFu : fewN u 2 := by
    have := fewN_end hF (0, 1) yes
    rw [hp] at this; exact this
  refine ⟨_, u, hw', hI.ok, hF, ?_, hu, hFu, fun ns => ?_⟩
  · rw [forceD, h1, if_neg (by simp), if_neg (by simp), if_neg (by simp), hp]
    rfl
  · have ha : decA u 0 (decM 1 word) ns = ((endS u (0, 1) word).1, [ansM 0 (decM 1 word) 8], if 0 < (writesS u (0, 1)).1 ∨ ns.any (dmg (decM 1 word)) = true then [recC 2 (0, 1) word] else []) := rfl
    rw [ha, hag, h2]
    by_cases hb : ns.any (dmg (decM 1 word)) = true
    · rw [if_pos (.inr hb), if_pos hb]
    · rw [if_neg (by rintro (h | h); exact absurd h (by simp); exact hb h), if_neg hb]
section
variable {T : Tb}
attribute [local simp] k_seq k_block k_skip k_reg k_alt k_cond k_exit k_ret kf_nil kf_seq_n kf_seq_e kf_seq_r kf_blk_n kf_blk_e kf_blk_r kf_lp_n kf_lp_e kf_lp_r kf_cut_n kf_cut_e kf_cut_r mkTm VCops VCalt istep act gd applyE wrapD Opd.ev get_mk set_mk set_mk0 tget16 tset16 tget_0 tset_0 tget_1 tset_1 tget_2 tset_2 tget_3 tset_3 tget_4 tset_4 tget_5 tset_5 tget_6 tset_6 tget_7 tset_7 tget_8 tset_8 tget_9 tset_9 tget_10 tset_10 tget_11 tset_11 tget_12 tset_12 tget_13 tset_13 tget_14 tset_14 tget_15 tset_15 D.un D.gu gus IOp.opds binD fnPost getRes IRes.get oneRes D.out outL D.clos closL D.norow norowL D.lv lvL D.scal scalL D.cells D.cell D.cell' St.lk obPut obDel List.lookup cut pickD splice fillParts fillRows elem_cons newsOf D.pl D.forget forgetL Ob.forget forgetO eqCells sg leD leDL leOb apartK St.le D.keys keysL D.rows rowsL obKeys addKeys reach pos D.ren renL Ob.ren inM outM inObs outObs goneK apartN okNames_eq okNms obNms namesOK_nil namesOK_cons freeOK_nil freeOK_cons D.frz frzL Ob.frz frzO St.frz forgetLs dropObs putObs hcall freeOf keeps baseN shD isShift shMax k_bad VCopsG frz_nil actx actc cnum vwCut St.frzT St.opnT St.clsT D.opn opnL Ob.opn opnO
set_option maxRecDepth 100000 in
set_option maxHeartbeats 16000000 in
theorem v_ForceDamage (h1 : T.sp n_reredoskeep_picked = some sp_picked) (h2 : T.sp n_reredoskeep_two = some sp_two) (h3 : T.sp n_part_Hear = some sp_Hear) (h4 : T.sp n_reredoskeep_sameStore = some sp_same) (h5 : T.sp n_store_Write = some sp_Write) (h6 : T.sp n_part_Force = some sp_Force) : Verified T ir_reredoskeep_ForceDamage sp_ForceDamage := by
  refine Verified.mk ?_
  rintro ds ⟨v, yes, word, rfl, hv⟩
  have x1 : sp_picked.hx = none := rfl
  have x2 : sp_two.hx = none := rfl
  have x3 : sp_Hear.hx = none := rfl
  have x4 : sp_same.hx = none := rfl
  have x5 : sp_Write.hx = none := rfl
  have x6 : sp_Force.hx = none := rfl
  have b1 := pk_bounds v 99 (by decide)
  have q1 := pk_pre hv (m := 99) (by decide)
  have q1' := pk_F v 99
  generalize pk v 99 = V at b1 q1'
  have f2 := two_F 0
  have e2 : (1 : Int) + pk 0 3 = 1 := by decide
  rw [e2] at f2
  have p2 := two_pre (s := 0) (by simp [inR])
  have o0 : OkS s0 := (okS_iff _).1 okS_s0
  have n0 : fewN s0 90 := fewN_s0 90
  obtain ⟨s, u, hw, hs, hF, hfo, hu, hFu, hd⟩ := damage_plain b1 yes word
  have f3 := write_F s0 (0, 1) 2 V 1
  have p3 := write_pre (fewN_fewS' (fewN_s0 0) (by decide)) (0, 1) 2 V 1
  rw [hw] at f3
  have f4 := force_F 1 3 0 s [] (0, 1) yes
  have p4 := force_pre (S := 1) (P := 3) (me := 0) (ns := []) (by omega) (by omega) (by omega) hs (fewN_fewS' hF (by decide)) (by simp) (0, 1) yes
  rw [hfo] at f4
  have hok := decM_ok (n := 1) (by omega) word
  have hE : hearE 1 3 0 0 (decM 1 word) = 0 := hear_zero hok rfl rfl (by omega) (by simp [decM])
  have g5 := fun ns => hear_F 1 3 0 0 u s0 ns 0 (decM 1 word)
  have q5 := fun ns hn => hear_pre (S := 1) (P := 3) (l := 0) (me := 0) (m := decM 1 word) (ns := ns) (by omega) (by omega) (by omega) (.inl rfl) hu o0 (fewN_mono hFu (by decide)) n0 hn 0
  have hD : ∀ ns, hearD 1 3 0 0 u s0 ns 0 (decM 1 word) = .tup [.agg (ansD (u, [ansM 0 (decM 1 word) 8], if ns.any (dmg (decM 1 word)) = true then [recC 2 (0, 1) word] else []) ((ns.map (noteD (decM 1 word))).map ntC)), .int .i64 0] := by
    intro ns
    rw [hearD, if_neg (by simp [hE]), hearA, if_neg (by simp [decM]), if_neg (by simp [decM]), if_neg (by simp [decM]), hd]
  have f5 := g5 [⟨0, 1, yes, false⟩]
  have p5 := q5 [⟨0, 1, yes, false⟩] (by simp)
  have f6 := g5 [⟨0, 1, yes, yes != word⟩]
  have p6 := q5 [⟨0, 1, yes, yes != word⟩] (by simp)
  rw [hD] at f5 f6
  have p7 := same_pre (fewS_of hFu (by decide))
  have f7 : sp_same.F [.agg (stoC u), .agg (stoC u)] = .bool true := rfl
  clear hw hs hF hfo hu hFu hd hok hE g5 q5 hD o0 n0
  obtain ⟨s1, s2, s3, s4⟩ := s
  obtain ⟨u1, u2, u3, u4⟩ := u
  cases yes <;> cases word
  all_goals
    simp only [stoC, txC, twoC, nilS, s0, ansD, ansC, msgC, ansM, decM, recC, ntC, dmg, noteD, List.map_nil, List.map_cons, List.any_cons, List.any_nil] at f2 p2 f3 p3 f4 p4 f5 p5 f6 p6 f7 p7
    try simp (implicitDefEqProofs := false) at f5
    try simp (implicitDefEqProofs := false) at f6
    try simp (implicitDefEqProofs := false) at p6
    try simp only [ntC] at f5
    try simp only [ntC] at f6
    try simp only [ntC] at p6
    simp (implicitDefEqProofs := false) (maxSteps := 10000000) [ir_reredoskeep_ForceDamage, h1, x1, h2, x2, h3, x3, h4, x4, h5, x5, h6, x6, f2, p2, f3, p3, f4, p4, f5, p5, f6, p6, f7, p7, q1, q1']
    all_goals exact rfl
end
end Go.Proofs.YtilahimnineigaaDoor
