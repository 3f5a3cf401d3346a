/-
  An answer that comes twice counts once. No conditions but those that each theorem names.
-/
import Derived.Test.YtchbnpjegacobaaDoorDkE
set_option linter.unusedVariables false
set_option linter.unusedSimpArgs false
namespace Go.Proofs.YtchbnpjegacobaaDoor
open Go Go.Vcg

/-- Nothing was done and nobody replied. -/
def quiet (w : Wd) (n : Int) (js : List Jb) : Prop := w.next = n ∧ w.js = js ∧ w.rp = [] ∧ w.rs = [] ∧ w.co = 0
theorem quiet_0 (n : Int) (js : List Jb) : quiet (wdN n js) n js := ⟨rfl, rfl, rfl, rfl, rfl⟩
/-- What a step did to job i: it is gone, or it stands, and the same step once more does nothing. -/
def twice (f : Wd → Jb → Wd) (n : Int) (js : List Jb) (i : Nat) (w : Wd) : Prop :=
  w.js = delE js i ∨ ∃ x, w.js = js.set i x ∧ x.n = (jAt js i).n ∧ quiet (f (wdN n (js.set i x)) x) n (js.set i x)
theorem set_self {js : List Jb} {i : Nat} (hi : i < js.length) : js.set i (jAt js i) = js := by
  rw [jAt_eq hi]; exact List.set_getElem_self hi
theorem twice_same {f : Wd → Jb → Wd} {n : Int} {js : List Jb} {i : Nat} (hi : i < js.length) {w : Wd} (h1 : w.js = js) (h2 : f (wdN n js) (jAt js i) = wdN n js) : twice f n js i w :=
  Or.inr ⟨jAt js i, by rw [set_self hi]; exact h1, rfl, by rw [set_self hi, h2]; exact quiet_0 n js⟩
variable {S : Int}
theorem ans_twice (h : Hd) {n : Int} {js : List Jb} {i : Nat} (hi : i < js.length) {nl : Nat} (hj : OkJ h.S nl n (jAt js i)) (m : Ms) (b : Bool) : twice (fun w j => ansW h w i j m b) n js i (ansW h (wdN n js) i (jAt js i) m b) := by
  by_cases ho : ansOk h.S (jAt js i) m b
  · have hpos : 0 < (jAt js i).tasks.length := ho.1
    have hk : (jAt js i).tasks.length - 1 < (jAt js i).tasks.length := by omega
    unfold ansW
    rw [if_pos ho]
    by_cases hc : m.code = 0
    · rw [if_pos hc]
      refine Or.inr ⟨_, rfl, rfl, ?_⟩
      have hno : ¬ ansOk h.S ⟨(jAt js i).n, (jAt js i).state, (jAt js i).tasks.set ((jAt js i).tasks.length - 1) (ansT (tkLast (jAt js i)) m b), (jAt js i).asked, (jAt js i).asks, 0⟩ m b := by
        intro q
        have h2 := q.2.1
        have hl : (jAt js i).tasks.length - 1 < ((jAt js i).tasks.set ((jAt js i).tasks.length - 1) (ansT (tkLast (jAt js i)) m b)).length := by simpa using hk
        have e : tkLast ⟨(jAt js i).n, (jAt js i).state, (jAt js i).tasks.set ((jAt js i).tasks.length - 1) (ansT (tkLast (jAt js i)) m b), (jAt js i).asked, (jAt js i).asks, 0⟩ = ansT (tkLast (jAt js i)) m b := by
          show List.getD _ _ tk0 = _
          simp only [List.length_set]
          rw [getD_tk hl, List.getElem_set_self]
        rw [e] at h2
        simp [ansT] at h2
      simp only
      rw [if_neg hno]
      exact quiet_0 _ _
    · rw [if_neg hc]
      cases b
      · rw [if_neg (by decide)]
        refine Or.inr ⟨_, rfl, rfl, ?_⟩
        have hno : ¬ ansOk h.S ⟨(jAt js i).n, (jAt js i).state, (jAt js i).tasks.take ((jAt js i).tasks.length - 1), (jAt js i).asked, (jAt js i).asks, 0⟩ m false := by
          intro q
          have hq := q.1
          have ha := q.2.2.1
          have hlen : ((jAt js i).tasks.take ((jAt js i).tasks.length - 1)).length = (jAt js i).tasks.length - 1 := by rw [List.length_take]; omega
          simp only at hq
          rw [hlen] at hq
          have hl : (jAt js i).tasks.length - 1 - 1 < ((jAt js i).tasks.take ((jAt js i).tasks.length - 1)).length := by omega
          have e : tkLast ⟨(jAt js i).n, (jAt js i).state, (jAt js i).tasks.take ((jAt js i).tasks.length - 1), (jAt js i).asked, (jAt js i).asks, 0⟩ = (jAt js i).tasks[(jAt js i).tasks.length - 1 - 1]'(by omega) := by
            show List.getD _ _ tk0 = _
            simp only [hlen]
            rw [getD_tk hl, List.getElem_take]
          have e2 : tkLast (jAt js i) = (jAt js i).tasks[(jAt js i).tasks.length - 1] := getD_tk hk
          have h3 := ho.2.2.1
          rw [e] at ha
          rw [e2] at h3
          have := List.pairwise_iff_getElem.1 hj.ts.2.1 ((jAt js i).tasks.length - 1 - 1) ((jAt js i).tasks.length - 1) (by omega) hk (by omega)
          omega
        simp only
        rw [if_neg hno]
        exact quiet_0 _ _
      · rw [if_pos rfl]
        exact Or.inl rfl
  · have e : ansW h (wdN n js) i (jAt js i) m b = wdN n js := by unfold ansW; rw [if_neg ho]
    exact twice_same hi (by rw [e]; rfl) e
theorem surB_T (m : Ms) (t : Tk) : surB m (surT m t) = surB m t := by
  unfold surT; split
  · rename_i h; simp only [surB] at h ⊢
  · rfl
theorem surT_T (m : Ms) (t : Tk) : surT m (surT m t) = surT m t := by
  have h := surB_T m t
  have e : ∀ u, surB m u = true → surT m u = ⟨u.wr, u.label, u.key, u.value, u.version, u.ask, u.done, u.sure || m.yes⟩ := fun u hu => by unfold surT; rw [if_pos hu]
  by_cases hb : surB m t = true
  · rw [e _ (h.trans hb), e t hb]
    simp only [Bool.or_assoc, Bool.or_self]
  · have e : surT m t = t := by unfold surT; rw [if_neg hb]
    rw [e, e]
theorem surJ_J (j : Jb) (m : Ms) : surJ (surJ j m) m = surJ j m := by
  have : surT m ∘ surT m = surT m := funext fun t => surT_T m t
  simp only [surJ, List.map_map, this]
theorem surJ_any (j : Jb) (m : Ms) : (surJ j m).tasks.any (surB m) = j.tasks.any (surB m) := by
  have : surB m ∘ surT m = surB m := funext fun t => surB_T m t
  simp only [surJ, List.any_map, this]
theorem sure_twice (h : Hd) {n : Int} {js : List Jb} {i : Nat} (hi : i < js.length) (m : Ms) : twice (fun w j => sureW h w i j m) n js i (sureW h (wdN n js) i (jAt js i) m) := by
  by_cases hc : (jAt js i).state = 2 ∧ m.frm = m.key.tmod h.S
  · have hc2 : (surJ (jAt js i) m).state = 2 ∧ m.frm = m.key.tmod h.S := hc
    unfold sureW
    rw [if_pos hc]
    have hss : ∀ x : Jb, (js.set i x).set i x = js.set i x := fun x => by rw [List.set_set]
    by_cases ha : (jAt js i).tasks.any (surB m) = true
    · rw [if_pos ha]
      cases hy : m.yes
      · rw [if_neg (by decide)]
        exact Or.inl (delE_set js i (surJ (jAt js i) m))
      · rw [if_pos rfl]
        by_cases hl : (surJ (jAt js i) m).tasks.any agnB = true
        · rw [if_pos hl]
          refine Or.inr ⟨surJ (jAt js i) m, rfl, rfl, ?_⟩
          simp only
          rw [if_pos hc2, if_pos (by rw [surJ_any]; exact ha), if_pos trivial, surJ_J, if_pos hl]
          exact ⟨rfl, hss _, rfl, rfl, rfl⟩
        · rw [if_neg hl]
          show twice _ n js i (comW h ⟨n, 0, 0, js.set i (surJ (jAt js i) m), [], [], []⟩ i)
          have hja : jAt (js.set i (surJ (jAt js i) m)) i = surJ (jAt js i) m := jAt_set hi _
          simp only [twice, comW, cmJ, cmJL, hja]
          by_cases he : (cmS h (surJ (jAt js i) m)).isEmpty = true
          · rw [if_pos he]
            exact Or.inl (delE_set js i (surJ (jAt js i) m))
          · rw [if_neg he]
            refine Or.inr ⟨⟨(surJ (jAt js i) m).n, 3, (surJ (jAt js i) m).tasks, cmS h (surJ (jAt js i) m), (surJ (jAt js i) m).asks, 0⟩, by rw [List.set_set], rfl, ?_⟩
            rw [if_neg (fun q => absurd (show (3 : Int) = 2 from q.1) (by decide))]
            exact quiet_0 _ _
    · rw [if_neg ha]
      refine Or.inr ⟨surJ (jAt js i) m, rfl, rfl, ?_⟩
      simp only
      rw [if_pos hc2, if_neg (by rw [surJ_any]; exact ha), surJ_J]
      exact ⟨rfl, hss _, rfl, rfl, rfl⟩
  · have e : sureW h (wdN n js) i (jAt js i) m = wdN n js := by unfold sureW; rw [if_neg hc]
    exact twice_same hi (by rw [e]; rfl) e
theorem ack_twice (h : Hd) {n : Int} {js : List Jb} {i : Nat} (hi : i < js.length) (m : Ms) : twice (fun w j => ackW h w i m) n js i (ackW h (wdN n js) i m) := by
  have hwj : (wdN n js).js = js := rfl
  by_cases hc : (jAt js i).state = 3
  · unfold ackW
    rw [hwj, if_pos hc]
    unfold ackWL
    by_cases he : (ackL (jAt js i) m).isEmpty = true
    · rw [if_pos he]; exact Or.inl rfl
    · rw [if_neg he]
      refine Or.inr ⟨⟨(jAt js i).n, (jAt js i).state, (jAt js i).tasks, ackL (jAt js i) m, (jAt js i).asks, (jAt js i).age⟩, rfl, rfl, ?_⟩
      have hj2 : jAt (wdN n (js.set i ⟨(jAt js i).n, (jAt js i).state, (jAt js i).tasks, ackL (jAt js i) m, (jAt js i).asks, (jAt js i).age⟩)).js i = ⟨(jAt js i).n, (jAt js i).state, (jAt js i).tasks, ackL (jAt js i) m, (jAt js i).asks, (jAt js i).age⟩ := jAt_set hi _
      have hll : ackL ⟨(jAt js i).n, (jAt js i).state, (jAt js i).tasks, ackL (jAt js i) m, (jAt js i).asks, (jAt js i).age⟩ m = ackL (jAt js i) m := by
        simp only [ackL, List.filter_filter, Bool.and_self]
      simp only [hj2]
      rw [if_pos hc, hll, if_neg he]
      exact ⟨rfl, by simp only [wdN]; rw [List.set_set], rfl, rfl, rfl⟩
  · have e : ackW h (wdN n js) i m = wdN n js := by unfold ackW; rw [hwj, if_neg hc]
    exact twice_same hi (by rw [e]; rfl) e
theorem place_set {js : List Jb} {n : Int} {i : Nat} (hi : i < js.length) (hp : placeJ js n = i) {x : Jb} (hx : x.n = n) : placeJ (js.set i x) n = i := by
  rcases idxOf_spec (fun y : Jb => decide (y.n = n)) js with ⟨h1, _⟩ | ⟨k, hk, h1, h2, h3⟩
  · have : placeJ js n = -1 := h1
    omega
  · have hki : k = i := by have : placeJ js n = k := h1; omega
    subst hki
    refine idxOf_found (g := fun y : Jb => decide (y.n = n)) (by simpa using hk) (by simp [hx]) fun t ht => ?_
    rw [List.getElem_set_ne (by omega)]
    exact h3 t (by omega) ht
theorem place_del {js : List Jb} (hu : js.Pairwise (fun a b => a.n < b.n)) {n : Int} {i : Nat} (hi : i < js.length) (hn : (jAt js i).n = n) : placeJ (delE js i) n = -1 := by
  refine placeJ_none fun j hj e => ?_
  have h1 := List.pairwise_iff_getElem.1 hu
  simp only [delE, List.mem_append] at hj
  rw [jAt_eq hi] at hn
  rcases hj with hj | hj
  · obtain ⟨t, ht, rfl⟩ := List.getElem_of_mem hj
    rw [List.getElem_take] at e
    have ht2 : t < i := by simp at ht; omega
    have := h1 t i (by omega) hi ht2
    omega
  · obtain ⟨t, ht, rfl⟩ := List.getElem_of_mem hj
    rw [List.getElem_drop] at e
    have ht2 : i + 1 + t < js.length := by simp at ht; omega
    have := h1 i (i + 1 + t) hi ht2 (by omega)
    omega
theorem msg_ok {S : Int} (hS : 1 ≤ S ∧ S ≤ 4) (r : Rw) : chkM S ls2 3 (hearM (hd2 S 1 0) r) = 0 := by
  have hc := check_two hS
  have hl : ls2.length = 2 := rfl
  have hr := mkMsg_range S 2 r (by omega) (by omega)
  have hf : okForm (hearM (hd2 S 1 0) r) := mkMsg_form S 2 r
  have hk := mkMsg_kind S 2 r
  have h9 := pk_bounds r.k 9 (by decide)
  have hr' : okRange S ls2.length (hearM (hd2 S 1 0) r) := by
    obtain ⟨g1, g2, g3, g4, g5, g6⟩ := hr
    have g5' : 1 ≤ (mkMsg S 2 r).n ∧ (mkMsg S 2 r).n ≤ 1048576 := by
      simp only [okTxn, Bool.and_eq_true, decide_eq_true_eq] at g5
      exact ⟨g5.1.2, g5.2⟩
    have g7 : okTxn S 0 (mkMsg S 2 r).n = true := by
      simp only [okTxn, Bool.and_eq_true, decide_eq_true_eq]
      exact ⟨⟨⟨by omega, by omega⟩, g5'.1⟩, g5'.2⟩
    exact ⟨g1, g2, Int.le_refl 0, show (0 : Int) < S by omega, g7, g6⟩
  have hk1 : (hearM (hd2 S 1 0) r).kind = 1 + pk r.k 9 := hk
  unfold chkM
  rw [if_neg (fun e => e hc), if_neg (by rw [hk1]; omega), if_neg (fun e => e hr'), if_neg (fun e => e hf)]
/-- The same again does nothing. -/
theorem hear_twice {S : Int} (hS : 1 ≤ S ∧ S ≤ 4) {d : Int × List Jb} (hd : DkO (hd2 S 1 0) d) {m : Ms} (hm : chkM S ls2 3 m = 0) (h1 : m.to = 0) (h2 : m.site = 0) (h3 : 5 ≤ m.kind) (h9 : m.kind ≠ 9) :
    ∃ (js : List Jb) (su co : Int) (ms rs rp : List (List D)) (su2 : Int) (ms2 : List (List D)), hearT (hd2 S 1 0) d.1 d.2 m = (⟨d.1, su, co, js, ms, rs, rp⟩, 0) ∧ hearT (hd2 S 1 0) d.1 js m = (⟨d.1, su2, 0, js, ms2, [], []⟩, 0) ∧ DkO (hd2 S 1 0) (d.1, js) := by
  have hb := beg2 hS (l := 1) (me := 0) (by omega) (by omega) hd
  have e1 := hearT_ok hb hm h1 h2 h3
  have hdk := hear_dk (h := hd2 S 1 0) (check_two hS) hd m
  rw [e1] at hdk ⊢
  have hdk2 := hdk rfl
  have hnx := hear_next (hd2 S 1 0) (wdN d.1 d.2) m (placeJ d.2 m.n)
  have hnx' : (hearW (hd2 S 1 0) (wdN d.1 d.2) m (placeJ d.2 m.n)).next = d.1 := hnx
  simp only [hnx'] at hdk2
  have hb2 := beg2 hS (l := 1) (me := 0) (by omega) (by omega) (d := (d.1, (hearW (hd2 S 1 0) (wdN d.1 d.2) m (placeJ d.2 m.n)).js)) hdk2
  have e2 := hearT_ok hb2 hm h1 h2 h3
  have key : quiet (hearW (hd2 S 1 0) (wdN d.1 (hearW (hd2 S 1 0) (wdN d.1 d.2) m (placeJ d.2 m.n)).js) m (placeJ (hearW (hd2 S 1 0) (wdN d.1 d.2) m (placeJ d.2 m.n)).js m.n)) d.1 (hearW (hd2 S 1 0) (wdN d.1 d.2) m (placeJ d.2 m.n)).js := by
    by_cases hp : placeJ d.2 m.n < 0
    · have e : hearW (hd2 S 1 0) (wdN d.1 d.2) m (placeJ d.2 m.n) = wdN d.1 d.2 := by
        unfold hearW; rw [if_neg h9, if_pos hp]
      rw [e]
      have e' : (wdN d.1 d.2).js = d.2 := rfl
      rw [e', e]
      exact quiet_0 _ _
    · have hpb := placeJ_b d.2 m.n
      obtain ⟨i, hpi⟩ : ∃ i : Nat, placeJ d.2 m.n = i := ⟨(placeJ d.2 m.n).toNat, by omega⟩
      have hi : i < d.2.length := by omega
      have hn : (jAt d.2 i).n = m.n := by
        rcases idxOf_spec (fun y : Jb => decide (y.n = m.n)) d.2 with ⟨q1, _⟩ | ⟨k, hk, q1, q2, _⟩
        · have : placeJ d.2 m.n = -1 := q1
          omega
        · have hki : k = i := by have : placeJ d.2 m.n = k := q1; omega
          subst hki
          rw [jAt_eq hk]; simpa using q2
      have hw : ∀ (js : List Jb), placeJ js m.n = i → hearW (hd2 S 1 0) (wdN d.1 js) m (placeJ js m.n) = hearP (hd2 S 1 0) (wdN d.1 js) i m := fun js e => by
        unfold hearW; rw [if_neg h9, if_neg (by omega), e, Int.toNat_natCast]
      have fin : ∀ (f : Wd → Jb → Wd), (∀ js, i < js.length → hearP (hd2 S 1 0) (wdN d.1 js) i m = f (wdN d.1 js) (jAt js i)) → twice f d.1 d.2 i (f (wdN d.1 d.2) (jAt d.2 i)) → quiet (hearW (hd2 S 1 0) (wdN d.1 (hearW (hd2 S 1 0) (wdN d.1 d.2) m (placeJ d.2 m.n)).js) m (placeJ (hearW (hd2 S 1 0) (wdN d.1 d.2) m (placeJ d.2 m.n)).js m.n)) d.1 (hearW (hd2 S 1 0) (wdN d.1 d.2) m (placeJ d.2 m.n)).js := by
        intro f hf ht
        rw [hw d.2 hpi, hf d.2 hi]
        generalize (f (wdN d.1 d.2) (jAt d.2 i)) = w at ht
        rcases ht with ht | ⟨x, ht, hxn, hq⟩
        · rw [ht, place_del hd.up hi hn]
          have e : hearW (hd2 S 1 0) (wdN d.1 (delE d.2 i)) m (-1) = wdN d.1 (delE d.2 i) := by
            unfold hearW; rw [if_neg h9, if_pos (by decide)]
          rw [e]; exact quiet_0 _ _
        · rw [ht]
          have hp2 := place_set hi hpi (x := x) (hxn.trans hn)
          rw [hw _ hp2, hf _ (by simpa using hi), jAt_set hi]
          exact hq
      by_cases k5 : m.kind = 5
      · exact fin (fun w j => ansW (hd2 S 1 0) w i j m false) (fun js _ => by unfold hearP; rw [if_pos k5]; rfl) (ans_twice _ hi (hd.ok _ (mem_jAt hi)) m false)
      · by_cases k6 : m.kind = 6
        · exact fin (fun w j => ansW (hd2 S 1 0) w i j m true) (fun js _ => by unfold hearP; rw [if_neg k5, if_pos k6]; rfl) (ans_twice _ hi (hd.ok _ (mem_jAt hi)) m true)
        · by_cases k7 : m.kind = 7
          · exact fin (fun w j => sureW (hd2 S 1 0) w i j m) (fun js _ => by unfold hearP; rw [if_neg k5, if_neg k6, if_pos k7]; rfl) (sure_twice _ hi m)
          · exact fin (fun w j => ackW (hd2 S 1 0) w i m) (fun js _ => by unfold hearP; rw [if_neg k5, if_neg k6, if_neg k7]) (ack_twice _ hi m)
  generalize hearW (hd2 S 1 0) (wdN d.1 d.2) m (placeJ d.2 m.n) = w at hnx' hdk2 e2 key
  obtain ⟨w1, w2, w3, w4, w5', w6, w7'⟩ := w
  simp only at hnx' hdk2 e2 key
  subst hnx'
  generalize hearW (hd2 S 1 0) (wdN d.1 w4) m (placeJ w4 m.n) = v at e2 key
  obtain ⟨v1, v2, v3, v4, v5, v6, v7⟩ := v
  obtain ⟨q1, q2, q3, q4, q5⟩ := key
  simp only at q1 q2 q3 q4 q5
  subst q1 q2 q3 q4 q5
  exact ⟨_, _, _, _, _, _, _, _, rfl, e2, hdk2⟩
end Go.Proofs.YtchbnpjegacobaaDoor
