/-
  One transaction alone at a desk: what it asks for, one thing behind the other, and what it is answered. No conditions but those that each theorem names.
-/
import Derived.Test.YtchbnpjegacobaaDoorDkJ
set_option linter.unusedVariables false
set_option linter.unusedSimpArgs false
namespace Go.Proofs.YtchbnpjegacobaaDoor
open Go Go.Vcg

/-- A transaction that did these tasks. -/
def oneJ (ts : List Tk) : Jb := ⟨1, 1, ts, [], ts.length, 0⟩
theorem one_place (j : Jb) (h : j.n = 1) : placeJ [j] 1 = (0 : Nat) := by
  have := place_mid (A := []) (R := []) (x := j) (by simp)
  rw [h] at this
  simpa using this
theorem one_waits {ts : List Tk} (h : ∀ t ∈ ts, t.done = true) : ¬ waits (oneJ ts) := by
  rintro ⟨h1, h2⟩
  have hk : ts.length - 1 < ts.length := by simp only [oneJ] at h1; omega
  have e : tkLast (oneJ ts) = ts[ts.length - 1] := getD_tk hk
  rw [e, h _ (List.getElem_mem hk)] at h2
  cases h2
variable {S l : Int}
theorem one_begin (hS : 1 ≤ S ∧ S ≤ 4) (hl : 0 ≤ l ∧ l ≤ 1) : callT (hd2 S l 0) 1 [] 6000 ⟨1, 0, 0, 0, 0⟩ = (⟨2, 0, 0, [oneJ []], [], [recC ⟨5, 0, 1, 0, 0, 0, false, []⟩], [rpC ⟨0, 1, 1, 0, 0, 0⟩]⟩, 0) := by
  have hb := beg2 hS hl (me := 0) (by omega) (d := (1, [])) (dkO_0 _)
  rw [callT_ok 6000 hb (by simp only; omega), callW, if_pos rfl, begW, if_neg (by simp [wdN])]
  rfl
theorem one_call (hS : 1 ≤ S ∧ S ≤ 4) (hl : 0 ≤ l ∧ l ≤ 1) {ts : List Tk} (hd : DkO (hd2 S l 0) (2, [oneJ ts])) (hdn : ∀ t ∈ ts, t.done = true) (h10 : ts.length < 10) {x : Cl} (hk : x.kind = 2 ∨ x.kind = 3) (hn : x.n = 1) (hr : ¬ badR x) (hbl : ¬ badL (hd2 S l 0) x) :
    callT (hd2 S l 0) 2 [oneJ ts] 6000 x = (tskW (hd2 S l 0) (wdN 2 [oneJ ts]) 0 (if x.kind = 2 then ⟨false, x.label, x.key, 0, 0, 0, false, false⟩ else ⟨true, l, x.key, x.value, 0, 0, false, false⟩), 0) := by
  have hb := beg2 hS hl (me := 0) (by omega) hd
  have hp : placeJ [oneJ ts] x.n = (0 : Nat) := by rw [hn]; exact one_place _ rfl
  have hj : jAt [oneJ ts] 0 = oneJ ts := rfl
  have hr0 : refE (hd2 S l 0) [oneJ ts] x = 0 := by
    unfold refE refP
    rw [hp, if_neg (by decide)]
    have e0 : ((0 : Nat) : Int).toNat = 0 := rfl
    rw [e0, hj]
    unfold refJ
    rw [if_pos (show (oneJ ts).state = 1 from rfl), if_neg (one_waits hdn), if_pos hk, if_neg hr, if_neg hbl, if_neg]
    simp only [oneJ]; omega
  rw [callT_ok 6000 hb (by omega), callW, if_neg (by omega)]
  have hwj : (wdN 2 [oneJ ts]).js = [oneJ ts] := rfl
  rw [hwj, if_pos hr0, hp]
  have e0 : ((0 : Nat) : Int).toNat = 0 := rfl
  rw [e0]
  unfold callP
  rcases hk with hk | hk
  · rw [if_pos hk, if_pos hk]
  · rw [if_neg (by omega), if_pos hk, if_neg (by omega)]; rfl
/-- The task that is asked for next, and the message. -/
def nextT (ts : List Tk) (t : Tk) : Tk := ⟨t.wr, t.label, t.key, t.value, t.version, ts.length + 1, t.done, t.sure⟩
theorem tsk_one (ts : List Tk) (t : Tk) : tskW (hd2 S l 0) (wdN 2 [oneJ ts]) 0 t = ⟨2, 0, 0, [⟨1, 1, ts ++ [nextT ts t], [], ts.length + 1, 0⟩], [msgC ⟨if t.wr = true then 2 else 1, 0, t.key.tmod S, 0, 1, if t.wr = true then 0 else t.label, t.key, t.value, 0, ts.length + 1, false, 0⟩], [], []⟩ := rfl
/-- The answer: it is done. -/
theorem one_answer (hS : 1 ≤ S ∧ S ≤ 4) (hl : 0 ≤ l ∧ l ≤ 1) {ts : List Tk} {t : Tk} (hd : DkO (hd2 S l 0) (2, [⟨1, 1, ts ++ [nextT ts t], [], ts.length + 1, 0⟩])) (ht : t.done = false) {m : Ms} (hm : chkM S ls2 3 m = 0) (h1 : m.to = 0) (h2 : m.site = 0) (h3 : m.n = 1) (h4 : m.kind = if t.wr = true then 6 else 5) (h5 : m.ask = ts.length + 1) (h6 : m.key = t.key) (h7 : t.wr = false → m.label = t.label) (h8 : m.frm = t.key.tmod S) (h9 : m.code = 0) :
    ∃ rp, hearT (hd2 S l 0) 2 [⟨1, 1, ts ++ [nextT ts t], [], ts.length + 1, 0⟩] m = (⟨2, 0, 0, [oneJ (ts ++ [⟨t.wr, t.label, t.key, if t.wr = true then t.value else m.value, if t.wr = true then t.version else m.version, ts.length + 1, true, t.sure⟩])], [], [], rp⟩, 0) := by
  have hb := beg2 hS hl (me := 0) (by omega) hd
  have hk5 : m.kind = 5 ∨ m.kind = 6 := by rw [h4]; split <;> omega
  rw [hearT_ok hb hm h1 h2 (by omega)]
  have hp : placeJ [⟨1, 1, ts ++ [nextT ts t], [], (ts.length : Int) + 1, 0⟩] m.n = (0 : Nat) := by rw [h3]; exact one_place _ rfl
  rw [hp]
  have e0 : ((0 : Nat) : Int).toNat = 0 := rfl
  have hj : jAt (wdN 2 [(⟨1, 1, ts ++ [nextT ts t], [], (ts.length : Int) + 1, 0⟩ : Jb)]).js 0 = ⟨1, 1, ts ++ [nextT ts t], [], ts.length + 1, 0⟩ := rfl
  have hlast : tkLast ⟨1, 1, ts ++ [nextT ts t], [], (ts.length : Int) + 1, 0⟩ = nextT ts t := by
    have hk : (ts ++ [nextT ts t]).length - 1 < (ts ++ [nextT ts t]).length := by simp
    show List.getD _ _ tk0 = _
    simp only
    rw [getD_tk hk]
    simp
  have hset : (ts ++ [nextT ts t]).set ((ts ++ [nextT ts t]).length - 1) (ansT (nextT ts t) m t.wr) = ts ++ [ansT (nextT ts t) m t.wr] := by
    have : (ts ++ [nextT ts t]).length - 1 = ts.length := by simp
    rw [this]; exact set_mid ts [] _ _
  have hok : ansOk S ⟨1, 1, ts ++ [nextT ts t], [], (ts.length : Int) + 1, 0⟩ m t.wr := by
    refine ⟨by simp, ?_, ?_, ?_, ?_, ?_, ?_⟩
    · rw [hlast]; exact ht
    · rw [hlast, h5]; rfl
    · rw [hlast]; rfl
    · rw [hlast, h6]; rfl
    · intro q; rw [hlast]; exact (h7 q).symm
    · rw [hlast, h8]; rfl
  have hans : ansW (hd2 S l 0) (wdN 2 [⟨1, 1, ts ++ [nextT ts t], [], (ts.length : Int) + 1, 0⟩]) 0 ⟨1, 1, ts ++ [nextT ts t], [], ts.length + 1, 0⟩ m t.wr = ⟨2, 0, 0, [oneJ (ts ++ [ansT (nextT ts t) m t.wr])], [], [], [rpC ⟨0, if t.wr = true then 3 else 2, 1, m.key, m.value, m.code⟩]⟩ := by
    unfold ansW
    have hS' : (hd2 S l 0).S = S := rfl
    rw [hS', if_pos hok, if_pos h9, hlast]
    simp only [hset]
    have hln : ((ts ++ [ansT (nextT ts t) m t.wr]).length : Int) = ts.length + 1 := by simp
    simp only [oneJ, hln]
    rfl
  refine ⟨[rpC ⟨0, if t.wr = true then 3 else 2, 1, m.key, m.value, m.code⟩], ?_⟩
  unfold hearW
  rw [if_neg (by omega), if_neg (by decide), e0]
  unfold hearP
  rw [hj]
  cases hw : t.wr
  · rw [hw] at h4 hans
    simp only [Bool.false_eq_true, if_false] at h4
    rw [if_pos h4, hans]
    simp only [ansT, nextT, hw]
  · rw [hw] at h4 hans
    simp only [if_true] at h4
    rw [if_neg (by omega), if_pos h4, hans]
    simp only [ansT, nextT, hw]
end Go.Proofs.YtchbnpjegacobaaDoor
