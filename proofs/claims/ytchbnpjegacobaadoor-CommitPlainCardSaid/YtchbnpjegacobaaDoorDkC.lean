/-
  Desks where there are two labels: what the laws use of them. No conditions but those that each theorem names.
-/
import Derived.Test.YtchbnpjegacobaaDoorDkK
set_option linter.unusedVariables false
set_option linter.unusedSimpArgs false
namespace Go.Proofs.YtchbnpjegacobaaDoor
open Go Go.Vcg

theorem check_two {S : Int} (h : 1 ≤ S ∧ S ≤ 4) : check S ls2 3 = 0 := by
  have e : chkL [] ls2 = 0 := by decide
  unfold check
  rw [if_neg (by omega), if_neg (by decide), e, if_pos rfl, if_neg (by decide)]
theorem two_F (s : Int) : sp_two.F [.int .i64 s] = cfgD (1 + pk s 3) ls2 3 := rfl
theorem two_pre {s : Int} (h : inR .i64 s) : sp_two.pre [.int .i64 s] = True := by
  simp only [sp_two, eq_iff_iff, iff_true]; exact ⟨s, rfl, h⟩
def hd2 (S l me : Int) : Hd := ⟨S, ls2, 3, l, me⟩
theorem okHd_2 {S l me : Int} (hS : 1 ≤ S ∧ S ≤ 4) (hl : 0 ≤ l ∧ l ≤ 1) (hm : 0 ≤ me ∧ me < S) : okHd (hd2 S l me) := by
  refine ⟨check_two hS, ⟨hl.1, ?_⟩, hm⟩
  have : (hd2 S l me).ls.length = 2 := rfl
  rw [this]; have := hl.2; simp only [hd2]; omega
theorem desk2_F (S l me : Int) (L : List Rw) (k : Nat) : sp_Desk.F [cfgD S ls2 3, .int .i64 l, .int .i64 me, rawsD L, .int .i64 k] = dkD (deskT (hd2 S l me) (L.take k)) := desk_F (hd2 S l me) L k
theorem desk2_pre {S l me : Int} (hS : 1 ≤ S ∧ S ≤ 4) (hl : 0 ≤ l ∧ l ≤ 1) (hm : 0 ≤ me ∧ me < S) {L : List Rw} (hL : okRaws L) {k : Nat} (hk : k ≤ 100) : sp_Desk.pre [cfgD S ls2 3, .int .i64 l, .int .i64 me, rawsD L, .int .i64 k] = True := desk_pre (h := hd2 S l me) (okHd_2 hS hl hm) hL hk
theorem chk2_F (S next : Int) (js : List Jb) : sp_CCheck.F [cfgD S ls2 3, dkD (next, js)] = .int .i64 (chkD S ls2 3 next js) := ccheck_F S ls2 3 next js
theorem chk2_pre (S : Int) {d : Int × List Jb} (hd : fewD d) : sp_CCheck.pre [cfgD S ls2 3, dkD d] = True :=
  ccheck_pre S ls2 3 d.1 (by have := hd.1; omega) fun j hj => ⟨by have := (hd.2 j hj).1; omega, by have := (hd.2 j hj).2; omega⟩
theorem chk2_zero {S l me : Int} (hS : 1 ≤ S ∧ S ≤ 4) {d : Int × List Jb} (hd : DkO (hd2 S l me) d) : chkD S ls2 3 d.1 d.2 = 0 := (chkD_iff (check_two hS)).2 hd
theorem chk2_nine {S : Int} (hS : 1 ≤ S ∧ S ≤ 4) : chkD S ls2 3 0 [] = 9 := by
  unfold chkD
  rw [if_neg (by simpa using check_two hS), if_pos (by omega)]

end Go.Proofs.YtchbnpjegacobaaDoor
