/-
  Desks: whatever is called and heard, and however time goes on, a desk stays one that may be. No conditions but those that each theorem names.
-/
import Derived.Test.YtchbnpjegacobaaDoorCoW
set_option linter.unusedVariables false
set_option linter.unusedSimpArgs false
namespace Go.Proofs.YtchbnpjegacobaaDoor
open Go Go.Vcg

theorem okTk_iff (nl : Nat) (t : Tk) : okTk nl t = true ↔ 0 ≤ t.label ∧ t.label < nl ∧ 0 ≤ t.key ∧ t.key < 8 ∧ 0 ≤ t.value ∧ t.value ≤ 1073741824 ∧ 0 ≤ t.version ∧ t.version ≤ 1048576 ∧ 1 ≤ t.ask ∧ t.ask ≤ 1048576 ∧ (t.done = true ∨ (t.sure = false ∧ (t.wr = true ∨ t.value + t.version = 0))) := by
  simp only [okTk, Bool.and_eq_true, Bool.or_eq_true, Bool.not_eq_true', Bool.or_eq_false_iff, decide_eq_false_iff_not, decide_eq_true_eq]
  constructor
  · rintro ⟨⟨⟨⟨⟨⟨⟨⟨⟨⟨a, b⟩, c⟩, d⟩, e⟩, f⟩, g⟩, h⟩, i⟩, k⟩, l⟩
    exact ⟨by omega, by omega, by omega, by omega, by omega, by omega, by omega, by omega, by omega, by omega, l⟩
  · rintro ⟨a, b, c, d, e, f, g, h, i, k, l⟩
    exact ⟨⟨⟨⟨⟨⟨⟨⟨⟨⟨by omega, by omega⟩, by omega⟩, by omega⟩, by omega⟩, by omega⟩, by omega⟩, by omega⟩, by omega⟩, by omega⟩, l⟩
/-- What is at work may be. -/
def WOk (h : Hd) (w : Wd) : Prop := DkOk h.S h.ls.length w.next w.js
variable {h : Hd} {w : Wd}
theorem WOk.at' (hw : WOk h w) {i : Nat} (hi : i < w.js.length) : OkJ h.S h.ls.length w.next (jAt w.js i) := hw.ok _ (mem_jAt hi)
theorem wok_end (hw : WOk h w) (i : Nat) : WOk h (endW h w i) := hw.del i
theorem wok_com (hS : 1 ≤ h.S) (hw : WOk h w) {i : Nat} (hi : i < w.js.length) (hd : allDone (jAt w.js i)) : WOk h (comW h w i) := by
  have hj := hw.at' hi
  obtain ⟨s1, s2, _⟩ := cmS_spec hS hj.key
  show DkOk _ _ w.next (cmJ h w.js i)
  simp only [cmJ, cmJL]
  split
  · exact hw.del i
  · rename_i hne
    refine hw.set hi (hj.state hd (by omega) ⟨s1, s2⟩ ?_ (by omega)) rfl
    simp only [List.isEmpty_iff] at hne
    exact ⟨fun _ => hne, fun _ => rfl⟩
theorem wok_cg (hS : 1 ≤ h.S) (hw : WOk h w) {i : Nat} (hi : i < w.js.length) (hs : (jAt w.js i).state = 1) (hn : ¬ waits (jAt w.js i)) : WOk h (cgW h w i) := by
  have hj := hw.at' hi
  have hd := hj.done (Or.inr hn)
  unfold cgW
  split
  · have ha : (jAt w.js i).asked = [] := by
      have := hj.te
      rw [hs] at this
      by_cases e : (jAt w.js i).asked = []
      · exact e
      · exact absurd (this.2 e) (by decide)
    refine hw.set hi ?_ rfl
    rw [ha]
    exact hj.state hd (by omega) ⟨List.Pairwise.nil, by simp⟩ (by simp) (by omega)
  · exact wok_com (w := ⟨w.next, (jAt w.js i).n, w.co, w.js, w.ms, w.rs, w.rp⟩) hS hw hi hd
theorem wok_beg (hw : WOk h w) (room : Int) : WOk h (begW h w room) := by
  unfold begW
  split
  · exact hw
  · rename_i hc
    exact DkOk.begin hw (by omega) (by omega)
theorem wok_call (hS : 1 ≤ h.S) (hl : 0 ≤ h.l ∧ h.l < h.ls.length) (hw : WOk h w) (room : Int) (x : Cl) : WOk h (callW h w room x) := by
  unfold callW
  split
  · exact wok_beg hw room
  · split
    · rename_i hr
      obtain ⟨r1, r2⟩ := ref_ok hr
      obtain ⟨r3, r4, r5⟩ := refJ_ok r2
      have hpb := placeJ_b w.js x.n
      have hi : (placeJ w.js x.n).toNat < w.js.length := by omega
      have hj := hw.at' hi
      unfold callP
      split
      · rename_i k2
        obtain ⟨q1, q2, q3, q4⟩ := r5 (Or.inl k2)
        simp only [badR, not_or, Int.not_lt, Int.not_le] at q1
        simp only [badL, not_and, not_or, Int.not_lt, Int.not_le] at q2
        have q2' := q2 k2
        refine hw.set hi (hj.asks r3 r4 q3 q4 ?_) rfl
        intro q a b
        rw [okTk_iff]
        exact ⟨q2'.1, q2'.2.1, q1.1, q1.2.1, by simp only; omega, by simp only; omega, by simp only; omega, by simp only; omega, a, b, Or.inr ⟨rfl, Or.inr rfl⟩⟩
      · split
        · rename_i k2 k3
          obtain ⟨q1, q2, q3, q4⟩ := r5 (Or.inr k3)
          simp only [badR, not_or, Int.not_lt, Int.not_le] at q1
          refine hw.set hi (hj.asks r3 r4 q3 q4 ?_) rfl
          intro q a b
          rw [okTk_iff]
          exact ⟨hl.1, hl.2, q1.1, q1.2.1, q1.2.2.1, q1.2.2.2, by simp only; omega, by simp only; omega, a, b, Or.inr ⟨rfl, Or.inl rfl⟩⟩
        · split
          · exact wok_cg hS hw hi r3 r4
          · exact wok_end hw _
    · exact hw
theorem set_last {α : Type} {l : List α} {k : Nat} (hk : k < l.length) {x : α} {i : Nat} (hi : i < (l.set k x).length) : (l.set k x)[i] = if i = k then x else l[i]'(by simpa using hi) := by
  rw [List.getElem_set]
  split
  · rename_i e; rw [if_pos e.symm]
  · rename_i e; rw [if_neg (fun q => e q.symm)]
theorem wok_ans {L : Int} (hL : L = h.ls.length) (hw : WOk h w) {i : Nat} (hi : i < w.js.length) {m : Ms} (hm : okRange h.S L m) (wr : Bool) : WOk h (ansW h w i (jAt w.js i) m wr) := by
  have hj := hw.at' hi
  unfold ansW
  split
  · rename_i ho
    obtain ⟨o1, o2, o3, o4, o5, o6, o7⟩ := ho
    split
    · refine hw.set hi ?_ rfl
      have hk : (jAt w.js i).tasks.length - 1 < (jAt w.js i).tasks.length := by omega
      have hlast : tkLast (jAt w.js i) = (jAt w.js i).tasks[(jAt w.js i).tasks.length - 1] := getD_tk hk
      have hst : (jAt w.js i).state = 1 := (hj.ts.2.2 _ hk (by rw [← hlast]; exact o2)).2
      have hold := (hj.ts.1 _ (List.getElem_mem hk))
      rw [← hlast, okTk_iff] at hold
      obtain ⟨⟨t1, t2, t3, t4, t5, t6, t7, t8, t9, t10, t11⟩, t12⟩ := hold
      obtain ⟨g1, g2, g3, g4, g5, g6, g7, g8, g9, g10, g11, g12, g13⟩ := hm
      simp only [okVal, Bool.and_eq_true, decide_eq_true_eq] at g9
      refine ⟨hj.n1, hj.n2, by simp, by simp, hj.s1, hj.s2, by simpa using hj.tl, hj.q1, hj.q2, ⟨fun u hu => ?_, ?_, ?_⟩, hj.sk, hj.te⟩
      · simp only at hu ⊢
        rcases List.mem_or_eq_of_mem_set hu with hu | rfl
        · exact hj.ts.1 u hu
        · refine ⟨?_, t12⟩
          rw [okTk_iff]
          simp only [ansT]
          refine ⟨t1, t2, t3, t4, ?_, ?_, ?_, ?_, t9, t10, Or.inl trivial⟩
          all_goals (split <;> omega)
      · simp only
        have hask : ((jAt w.js i).tasks.set ((jAt w.js i).tasks.length - 1) (ansT (tkLast (jAt w.js i)) m wr)).map (fun t => t.ask) = (jAt w.js i).tasks.map (fun t => t.ask) := by
          rw [List.map_set]
          apply List.ext_getElem (by simp)
          intro k h1 h2
          rw [List.getElem_set]
          split
          · rename_i e; subst e; rw [List.getElem_map, hlast]; rfl
          · rfl
        have h1 := hj.ts.2.1
        rw [← List.pairwise_map (f := fun t : Tk => t.ask) (R := fun a b : Int => a < b)] at h1 ⊢
        rw [hask]; exact h1
      · intro q hq hf
        simp only at hq hf ⊢
        rw [set_last hk] at hf
        split at hf
        · simp [ansT] at hf
        · rename_i hne
          have hql : q < (jAt w.js i).tasks.length := by simpa using hq
          have := hj.ts.2.2 q hql hf
          simp; omega
    · split
      · exact hw.del i
      · have hk : (jAt w.js i).tasks.length - 1 < (jAt w.js i).tasks.length := by omega
        exact hw.set hi (hj.take _ hk) rfl
  · exact hw
theorem surT_ask (m : Ms) (t : Tk) : (surT m t).ask = t.ask ∧ (surT m t).done = t.done ∧ (surT m t).key = t.key ∧ (surT m t).label = t.label ∧ (surT m t).wr = t.wr := by
  unfold surT; split <;> exact ⟨rfl, rfl, rfl, rfl, rfl⟩
theorem surT_ok {nl : Nat} {m : Ms} {t : Tk} (h1 : okTk nl t = true) (h2 : t.done = true) : okTk nl (surT m t) = true := by
  unfold surT
  split
  · rw [okTk_iff] at h1 ⊢
    obtain ⟨t1, t2, t3, t4, t5, t6, t7, t8, t9, t10, t11⟩ := h1
    exact ⟨t1, t2, t3, t4, t5, t6, t7, t8, t9, t10, Or.inl h2⟩
  · exact h1
theorem surJ_ok {S : Int} {nl : Nat} {next : Int} {j : Jb} (hj : OkJ S nl next j) (hd : allDone j) (m : Ms) : OkJ S nl next (surJ j m) :=
  hj.mapT hd fun t _ h1 h2 => ⟨surT_ok h1 h2, (surT_ask m t).1, by rw [(surT_ask m t).2.1]; exact h2⟩
theorem surJ_done {j : Jb} (hd : allDone j) (m : Ms) : allDone (surJ j m) := by
  intro t ht
  obtain ⟨u, hu, rfl⟩ := List.mem_map.1 ht
  rw [(surT_ask m u).2.1]; exact hd u hu
theorem jAt_set {js : List Jb} {i : Nat} (hi : i < js.length) (x : Jb) : jAt (js.set i x) i = x := by simp [jAt, hi]
theorem wok_sure (hS : 1 ≤ h.S) (hw : WOk h w) {i : Nat} (hi : i < w.js.length) (m : Ms) : WOk h (sureW h w i (jAt w.js i) m) := by
  have hj := hw.at' hi
  unfold sureW
  split
  · rename_i hc
    have hd := hj.done (Or.inl (by rw [hc.1]; decide))
    have hs := DkOk.set hw hi (surJ_ok hj hd m) rfl
    split
    · split
      · split
        · exact hs
        · refine wok_com (w := ⟨w.next, w.su, w.co, w.js.set i (surJ (jAt w.js i) m), w.ms, w.rs, w.rp⟩) hS hs (by simpa using hi) ?_
          simp only [jAt_set hi]
          exact surJ_done hd m
      · exact wok_end (w := ⟨w.next, w.su, w.co, w.js.set i (surJ (jAt w.js i) m), w.ms, w.rs, w.rp ++ [rpC ⟨h.me, 4, (jAt w.js i).n, 0, 0, 11⟩]⟩) hs i
    · exact hs
  · exact hw
theorem wok_ack (hw : WOk h w) {i : Nat} (hi : i < w.js.length) (m : Ms) : WOk h (ackW h w i m) := by
  have hj := hw.at' hi
  unfold ackW
  split
  · rename_i h3
    unfold ackWL
    split
    · exact hw.del i
    · rename_i hne
      simp only [List.isEmpty_iff] at hne
      have hd := hj.done (Or.inl (by rw [h3]; decide))
      refine hw.set hi (hj.state hd ⟨hj.s1, hj.s2⟩ ⟨hj.sk.1.sublist List.filter_sublist, fun y hy => hj.sk.2 y (List.mem_filter.1 hy).1⟩ ?_ ⟨hj.a1, hj.a2⟩) rfl
      exact ⟨fun _ => hne, fun _ => h3⟩
  · exact hw
theorem wok_askd (hw : WOk h w) (p : Int) (m : Ms) : WOk h (askdW h w p m) := by
  unfold askdW
  split
  · exact hw
  · split
    · exact hw
    · exact hw
theorem wok_hear {L : Int} (hL : L = h.ls.length) (hS : 1 ≤ h.S) (hw : WOk h w) {m : Ms} (hm : okRange h.S L m) : WOk h (hearW h w m (placeJ w.js m.n)) := by
  have hpb := placeJ_b w.js m.n
  unfold hearW
  split
  · exact wok_askd hw _ m
  · split
    · exact hw
    · have hi : (placeJ w.js m.n).toNat < w.js.length := by omega
      unfold hearP
      split
      · exact wok_ans hL hw hi hm false
      · split
        · exact wok_ans hL hw hi hm true
        · split
          · exact wok_sure hS hw hi m
          · exact wok_ack hw hi m
/-- What a call leaves. -/
theorem call_dk {next : Int} {js : List Jb} (hc : check h.S h.ls h.P = 0) (hl : 0 ≤ h.l ∧ h.l < h.ls.length) (hd : DkOk h.S h.ls.length next js) (room : Int) (x : Cl) : (callT h next js room x).2 = 0 → DkOk h.S h.ls.length (callT h next js room x).1.next (callT h next js room x).1.js := by
  unfold callT
  split
  · intro _
    exact wok_call (w := wdN next js) (by have := check_ok hc; omega) hl hd room x
  · rename_i he
    exact fun e => absurd e he
theorem chkM_zero {s p : Int} {ls : List (Int × Int)} {m : Ms} (h : chkM s ls p m = 0) : okRange s ls.length m ∧ okForm m ∧ 1 ≤ m.kind ∧ m.kind ≤ 9 := by
  unfold chkM at h
  split at h
  · rename_i h1; exact absurd h h1
  · split at h
    · omega
    · rename_i h2
      split at h
      · omega
      · rename_i h3
        split at h
        · omega
        · rename_i h4
          exact ⟨by simpa using h3, by simpa using h4, by omega, by omega⟩
theorem hear_dk {next : Int} {js : List Jb} (hc : check h.S h.ls h.P = 0) (hd : DkOk h.S h.ls.length next js) (m : Ms) : (hearT h next js m).2 = 0 → DkOk h.S h.ls.length (hearT h next js m).1.next (hearT h next js m).1.js := by
  unfold hearT
  split
  · rename_i he
    intro _
    have hm : chkM h.S h.ls h.P m = 0 := by
      unfold hearE at he
      split at he
      · rename_i h1; exact absurd he h1
      · split at he
        · rename_i h2; exact absurd he h2
        · rename_i h2; simpa using h2
    exact wok_hear (w := wdN next js) rfl (by have := check_ok hc; omega) hd (chkM_zero hm).1
  · rename_i he
    exact fun e => absurd e he
end Go.Proofs.YtchbnpjegacobaaDoor
