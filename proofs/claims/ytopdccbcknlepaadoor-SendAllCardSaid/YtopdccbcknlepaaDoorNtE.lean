/-
  Messages on their way: what is sent, and how many there are; the functions that make messages and count them. Conditions: those of each specification's 'pre', and that the functions that are called are what theirs say.
-/
import Derived.Test.YtopdccbcknlepaaDoorNtD
set_option linter.unusedVariables false
set_option linter.unusedSimpArgs false
namespace Go.Proofs.YtopdccbcknlepaaDoor
open Go Go.Vcg

/-- How many there are. -/
def cnt (fs : List (List Ms)) : Nat := (fs.map List.length).sum
theorem cnt_set : ∀ {fs : List (List Ms)} {i : Nat} {q : List Ms} (h : i < fs.length), cnt (fs.set i q) + fs[i].length = cnt fs + q.length
  | [], i, q, h => by simp at h
  | f :: fs, 0, q, h => by simp [cnt]; omega
  | f :: fs, i + 1, q, h => by
    have := cnt_set (fs := fs) (i := i) (q := q) (by simpa using h)
    simp only [cnt, List.set_cons_succ, List.map_cons, List.sum_cons, List.getElem_cons_succ] at this ⊢
    omega
theorem cnt_replicate (n : Nat) : cnt (List.replicate n []) = 0 := by
  induction n with
  | zero => rfl
  | succ n ih => simp only [cnt, List.replicate_succ, List.map_cons, List.sum_cons] at ih ⊢; simp [ih]
theorem sendF_length (S : Int) : ∀ (ms : List Ms) (fs : List (List Ms)), (sendF S fs ms).length = fs.length
  | [], fs => rfl
  | m :: ms, fs => by
    have := sendF_length S ms (pushM S fs m)
    rw [pushM_length] at this
    exact this
/-- Where there is room all are on their way, each in its row. -/
theorem sendF_rows (S : Int) : ∀ (ms : List Ms) (fs : List (List Ms)), (∀ q ∈ fs, q.length + ms.length ≤ 30) → (∀ m ∈ ms, wayI S m < fs.length) → (∀ (i : Nat), i < fs.length → (sendF S fs ms).getD i [] = fs.getD i [] ++ ms.filter fun m => wayI S m == i) ∧ cnt (sendF S fs ms) = cnt fs + ms.length
  | [], fs, _, _ => ⟨fun i _ => by simp [sendF], by simp [sendF]⟩
  | m :: ms, fs, h, hw => by
    have hm := hw m (by simp)
    have hg : fs.getD (wayI S m) [] = fs[wayI S m] := by simp [List.getD, hm]
    have hq := h fs[wayI S m] (List.getElem_mem hm)
    simp only [List.length_cons] at hq
    have hp : pushM S fs m = fs.set (wayI S m) (fs[wayI S m] ++ [m]) := by rw [pushM, hg, if_pos (by omega)]
    have ih := sendF_rows S ms (pushM S fs m) (by
      intro q hq'
      rw [hp] at hq'
      rcases List.mem_or_eq_of_mem_set hq' with h1 | h1
      · have := h q h1
        simp only [List.length_cons] at this; omega
      · rw [h1]; simp; omega) (fun x hx => by rw [pushM_length]; exact hw x (by simp [hx]))
    have e : sendF S fs (m :: ms) = sendF S (pushM S fs m) ms := rfl
    rw [e]
    refine ⟨fun i hi => ?_, ?_⟩
    · rw [ih.1 i (by rw [pushM_length]; exact hi), hp]
      by_cases he : wayI S m = i
      · subst he
        simp [List.getD, hm, List.filter_cons]
      · have : (wayI S m == i) = false := by simpa using he
        simp [List.getD, List.getElem?_set, he, List.filter_cons, this]
    · have hc := cnt_set (q := fs[wayI S m] ++ [m]) hm
      rw [ih.2, hp]
      simp only [List.length_append, List.length_cons, List.length_nil] at hc ⊢
      omega
/-- The same message again and again: so many as there is room for. -/
theorem sendF_same (S : Int) (m : Ms) : ∀ (n : Nat) (fs : List (List Ms)) (h : wayI S m < fs.length), fs[wayI S m].length ≤ 30 → (sendF S fs (List.replicate n m)).getD (wayI S m) [] = fs[wayI S m] ++ List.replicate (min n (30 - fs[wayI S m].length)) m ∧ cnt (sendF S fs (List.replicate n m)) = cnt fs + min n (30 - fs[wayI S m].length)
  | 0, fs, h, _ => by simp [sendF, List.getD, h]
  | n + 1, fs, h, hq => by
    have hg : fs.getD (wayI S m) [] = fs[wayI S m] := by simp [List.getD, h]
    have e : sendF S fs (List.replicate (n + 1) m) = sendF S (pushM S fs m) (List.replicate n m) := rfl
    rw [e]
    by_cases h30 : fs[wayI S m].length < 30
    · have hp : pushM S fs m = fs.set (wayI S m) (fs[wayI S m] ++ [m]) := by rw [pushM, hg, if_pos h30]
      have hl : wayI S m < (pushM S fs m).length := by rw [pushM_length]; exact h
      have hgp : (pushM S fs m)[wayI S m] = fs[wayI S m] ++ [m] := by simp [hp]
      obtain ⟨i1, i2⟩ := sendF_same S m n (pushM S fs m) hl (by rw [hgp]; simp; omega)
      rw [hgp] at i1 i2
      have hc := cnt_set (q := fs[wayI S m] ++ [m]) h
      rw [← hp] at hc
      simp only [List.length_append, List.length_cons, List.length_nil] at hc i1 i2
      have hmin : min (n + 1) (30 - fs[wayI S m].length) = min n (30 - (fs[wayI S m].length + 1)) + 1 := by omega
      refine ⟨?_, by rw [i2, hmin]; omega⟩
      rw [i1, hmin, List.append_assoc, List.replicate_succ]
      rfl
    · have hp : pushM S fs m = fs := by rw [pushM, hg, if_neg h30]
      rw [hp]
      obtain ⟨i1, i2⟩ := sendF_same S m n fs h hq
      have hz : 30 - fs[wayI S m].length = 0 := by omega
      rw [hz] at i1 i2 ⊢
      exact ⟨by rw [i1]; simp, by rw [i2]; simp⟩

noncomputable def sp_count : Sp := { pre := fun ds => ∃ fs : List (List Ms), ds = [.fz 1 (fs.map flyF)] ∧ fs.length ≤ 100 ∧ ∀ q ∈ fs, q.length ≤ 1000, F := fun | [.fz _ es] => .int .i64 (cnt (es.map flyOf) : Nat) | _ => .any }
theorem count_F (fs : List (List Ms)) : sp_count.F [.fz 1 (fs.map flyF)] = .int .i64 (cnt fs : Nat) := by simp only [sp_count, flyOf_map]
theorem count_pre {fs : List (List Ms)} (h : fs.length ≤ 100) (h1 : ∀ q ∈ fs, q.length ≤ 1000) : sp_count.pre [.fz 1 (fs.map flyF)] = True := by
  simp only [sp_count, eq_iff_iff, iff_true]; exact ⟨fs, rfl, h, h1⟩
def rawsOf' : D → List Rw
  | .fz _ es => es.map fun e => rawOf (.agg e)
  | _ => []
theorem rawsOf'_raw (l : List Rw) : rawsOf' (rawsD l) = l := by
  simp only [rawsOf', rawsD, List.map_map]
  have : (fun e => rawOf (.agg e)) ∘ rawC = id := by funext r; exact rawOf_rawD r
  rw [this, List.map_id]
def sp_messages : Sp := { pre := fun ds => ∃ x rs most, ds = [x, rawsD rs, .int .i64 most] ∧ okSL x ∧ okRaws rs ∧ 0 ≤ most ∧ most ≤ 1000, F := fun | [x, y, .int _ most] => .fz 12 (((rawsOf' y).take most.toNat).map (fun r => msgC (mkMsg (cfgOf x).1 (cfgOf x).2.1.length r))) | _ => .any }
theorem messages_F (S P : Int) (ls : List (Int × Int)) (rs : List Rw) (m : Nat) : sp_messages.F [cfgD S ls P, rawsD rs, .int .i64 (m : Int)] = .fz 12 (((rs.take m).map (mkMsg S ls.length)).map msgC) := by
  simp only [sp_messages, cfgOf_cfgD, rawsOf'_raw, Int.toNat_natCast, List.map_map]
  rfl
theorem messages_pre {S P : Int} {ls : List (Int × Int)} (h : okSL (cfgD S ls P)) {rs : List Rw} (hr : okRaws rs) {m : Nat} (hm : m ≤ 1000) : sp_messages.pre [cfgD S ls P, rawsD rs, .int .i64 (m : Int)] = True := by
  simp only [sp_messages, eq_iff_iff, iff_true]; exact ⟨_, rs, m, rfl, h, hr, by omega, by omega⟩
theorem mess_F (S P : Int) (ls : List (Int × Int)) (r : Rw) : sp_Message.F [cfgD S ls P, rawD r] = msgD (mkMsg S ls.length r) := by
  simp only [sp_Message, cfgOf_cfgD, rawOf_rawD]
theorem mess_pre {S P : Int} {ls : List (Int × Int)} (h : okSL (cfgD S ls P)) {r : Rw} (hr : okRaw r) : sp_Message.pre [cfgD S ls P, rawD r] = True := by
  simp only [sp_Message, eq_iff_iff, iff_true]; exact ⟨_, r, rfl, h, hr⟩

section
variable {T : Tb}
attribute [local simp] k_seq k_block k_skip k_reg k_alt k_cond k_exit k_ret kf_nil kf_seq_n kf_seq_e kf_seq_r kf_blk_n kf_blk_e kf_blk_r kf_lp_n kf_lp_e kf_lp_r kf_cut_n kf_cut_e kf_cut_r mkTm VCops VCalt istep act gd applyE wrapD Opd.ev get_mk set_mk set_mk0 tget16 tset16 tget_0 tset_0 tget_1 tset_1 tget_2 tset_2 tget_3 tset_3 tget_4 tset_4 tget_5 tset_5 tget_6 tset_6 tget_7 tset_7 tget_8 tset_8 tget_9 tset_9 tget_10 tset_10 tget_11 tset_11 tget_12 tset_12 tget_13 tset_13 tget_14 tset_14 tget_15 tset_15 D.un D.gu gus IOp.opds binD fnPost getRes IRes.get oneRes D.out outL D.clos closL D.norow norowL D.lv lvL D.scal scalL D.cells D.cell D.cell' St.lk obPut obDel List.lookup cut pickD splice fillParts fillRows elem_cons newsOf D.pl D.forget forgetL Ob.forget forgetO eqCells sg leD leDL leOb apartK St.le D.keys keysL D.rows rowsL obKeys addKeys reach pos D.ren renL Ob.ren inM outM inObs outObs goneK apartN okNames_eq okNms obNms namesOK_nil namesOK_cons freeOK_nil freeOK_cons D.frz frzL Ob.frz frzO St.frz forgetLs dropObs putObs hcall freeOf keeps baseN shD isShift shMax k_bad VCopsG frz_nil actx actc cnum vwCut St.frzT St.opnT St.clsT D.opn opnL Ob.opn opnO VCou VCcx St.oneS D.objI D.objK scrL D.scr St.opnS St.clsS D.cellS D.fzs fzsL k_mrk IOper.gh
set_option maxRecDepth 100000 in
set_option maxHeartbeats 4000000 in
theorem v_count : Verified T ir_reredoskeep_count sp_count := by
  refine Verified.mk ?_
  rintro ds ⟨fs, rfl, hl, hq⟩
  rw [count_F]
  simp (implicitDefEqProofs := false) [ir_reredoskeep_count]
  refine k_loop (ι := {i : Nat // i ≤ fs.length}) (fun x => ⟨mkTm 18 0 [(3, .int .i64 (cnt (fs.take x.1) : Nat)), (6, .fz 1 (fs.map flyF)), (7, .int .i64 fs.length), (8, .int .i64 x.1)], []⟩)
    (fun x => fs.length - x.1) [] ⟨0, by omega⟩ (by simp [cnt]) ?_
  rintro ⟨i, hi⟩ P hP
  rcases Nat.lt_or_ge i fs.length with h | h
  · have hi1 : (i : Int) < fs.length := by omega
    have hel := elem_map flyF fs i h
    have hqi := hq fs[i] (List.getElem_mem h)
    have ht : cnt (fs.take (i + 1)) = cnt (fs.take i) + fs[i].length := by
      rw [(List.take_append_getElem h).symm]; simp only [cnt, List.map_append, List.map_cons, List.map_nil, List.sum_append, List.sum_cons, List.sum_nil, Nat.add_zero]
    have hb : cnt (fs.take i) ≤ i * 1000 := by
      have : ∀ (l : List (List Ms)), (∀ q ∈ l, q.length ≤ 1000) → cnt l ≤ l.length * 1000 := by
        intro l
        induction l with
        | nil => intro _; simp [cnt]
        | cons q l ih =>
          intro h
          have h1 := ih (fun q hq => h q (by simp [hq]))
          have h2 := h q (by simp)
          simp only [cnt, List.map_cons, List.sum_cons, List.length_cons] at h1 ⊢
          omega
      have h1 := this (fs.take i) (fun q hq' => hq q (List.mem_of_mem_take hq'))
      rw [List.length_take] at h1
      omega
    have hinv : ((cnt (fs.take (i + 1)) : Nat) : Int) = (cnt (fs.take i) : Nat) + (fs[i].length : Nat) := by rw [ht]; omega
    generalize cnt (fs.take i) = c at hb hinv ⊢
    simp only [flyF] at hel
    simp (implicitDefEqProofs := false) [ir_reredoskeep_count_b0, hi1, h, hel]
    refine ⟨by simp only [inR]; omega, by simp only [inR]; omega, hP _ [] ⟨i + 1, by omega⟩ ?_ (by simp only; omega)⟩
    simp only [hinv]
    simp
  · have hi1 : ¬ (i : Int) < fs.length := by omega
    obtain rfl : i = fs.length := by omega
    simp (implicitDefEqProofs := false) [ir_reredoskeep_count_b0, ir_reredoskeep_count_r1, hi1]
set_option maxRecDepth 100000 in
set_option maxHeartbeats 4000000 in
theorem v_messages (h1 : T.sp n_reredoskeep_Message = some sp_Message) : Verified T ir_reredoskeep_messages sp_messages := by
  refine Verified.mk ?_
  rintro ds ⟨x, rs, most, rfl, hok, ⟨hrs, hlen⟩, hm0, hm1⟩
  obtain ⟨S, ls, p, rfl⟩ := isCfg_cfgD hok.1
  obtain ⟨M, rfl⟩ := Int.eq_ofNat_of_zero_le hm0
  rw [messages_F]
  have hx : sp_Message.hx = none := rfl
  have hF := mess_F S p ls
  simp only [cfgD, rawD, msgD] at hF
  have hpre : ∀ r ∈ rs, sp_Message.pre [cfgD S ls p, rawD r] = True := fun r hr => mess_pre hok (hrs r hr)
  simp only [cfgD, rawD] at hpre
  simp (implicitDefEqProofs := false) [ir_reredoskeep_messages, cfgD, rawsD]
  refine k_loop (ι := {i : Nat // i ≤ rs.length ∧ i ≤ M}) (fun x => ⟨mkTm 32 0 [(1, .fz 6 (rs.map rawC)), (2, .int .i64 (M : Int)), (3, .own 3 0), (7, .row 100), (8, .int .i64 x.1)], [(3, .box [.int .i64 S, .fz 2 (ls.map lbc), .int .i64 p]), (100, .row 12 (((rs.take x.1).map (mkMsg S ls.length)).map msgC))]⟩)
    (fun x => rs.length - x.1) [(100, none)] ⟨0, by omega, by omega⟩ (by simp) ?_
  rintro ⟨i, hi, him⟩ P hP
  by_cases h : i < rs.length ∧ i < M
  · obtain ⟨h, hm⟩ := h
    have hil : (i : Int) < rs.length := by omega
    have him' : (i : Int) < M := by omega
    have hel := elem_map rawC rs i h
    have hpre' := hpre _ (List.getElem_mem h)
    have hF' := hF rs[i]
    have ht : rs.take (i + 1) = rs.take i ++ [rs[i]] := (List.take_append_getElem h).symm
    generalize rs[i] = r at hel hpre' hF' ht
    have hl : (rs.take i).length ≤ 1000 := by rw [List.length_take]; omega
    have hinv : ((rs.take (i + 1)).map (mkMsg S ls.length)).map msgC = ((rs.take i).map (mkMsg S ls.length)).map msgC ++ [msgC (mkMsg S ls.length r)] := by rw [ht]; simp
    generalize hacc : ((rs.take i).map (mkMsg S ls.length)).map msgC = acc at hinv ⊢
    have hla : acc.length ≤ 1000 := by rw [← hacc]; simpa using hl
    clear hacc ht
    generalize mkMsg S ls.length r = m at hF' hinv
    obtain ⟨m1, m2, m3, m4, m5, m6, m7, m8, m9, m10, m11, m12⟩ := m
    obtain ⟨k, a, b, c, d, e⟩ := r
    simp only [msgC, rawC] at hF' hpre' hel hinv
    simp (implicitDefEqProofs := false) [ir_reredoskeep_messages_b0, hil, him', hm, h, hel, h1, hx, hpre', hF']
    refine ⟨by omega, by simp only [inR]; omega, hP _ [(100, some 30)] ⟨i + 1, by omega, by omega⟩ ?_ (by simp only; omega)⟩
    simp only [hinv]
    simp (implicitDefEqProofs := false) []
  · have hd : rs.take M = rs.take i := by
      by_cases hc : i < rs.length
      · have : M = i := by omega
        rw [this]
      · rw [List.take_of_length_le (by omega), List.take_of_length_le (by omega)]
    have hd' : List.take M (rs.map (msgC ∘ mkMsg S ls.length)) = ((rs.take i).map (mkMsg S ls.length)).map msgC := by rw [List.map_map, ← List.map_take, hd]
    rw [hd']
    simp only
    generalize ((rs.take i).map (mkMsg S ls.length)).map msgC = acc
    by_cases hc : (i : Int) < rs.length
    · have h2 : ¬ (i : Int) < M := by omega
      simp (implicitDefEqProofs := false) [ir_reredoskeep_messages_b0, ir_reredoskeep_messages_r1, hc, h2]
    · simp (implicitDefEqProofs := false) [ir_reredoskeep_messages_b0, ir_reredoskeep_messages_r1, hc]
end
end Go.Proofs.YtopdccbcknlepaaDoor
