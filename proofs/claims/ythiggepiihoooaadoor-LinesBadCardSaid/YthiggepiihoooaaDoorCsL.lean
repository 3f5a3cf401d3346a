/-
  Functions of the library, as the walks meet them: what they say. Conditions: those that each theorem names.
-/
import Derived.Test.YthiggepiihoooaaDoorCs0
set_option linter.unusedVariables false
set_option linter.unusedSimpArgs false
namespace Go.Proofs.YthiggepiihoooaaDoor
open Go Go.Vcg

/-! ### The library's functions, as they are met here -/
def atoiOk (s : List UInt8) : Bool := match Lib.atoiAll s with | .ok _ => true | _ => false
def atoiV (s : List UInt8) : Int := match Lib.atoiAll s with | .ok n => n | .range => Lib.atoiSat s | _ => 0
def sp_Atoi : Sp := { pre := fun ds => ∃ s : List UInt8, ds = [.str s] ∧ s.length ≤ 4000000, F := fun | [.str s] => .tup [.int .i64 (atoiV s), .err (some (atoiOk s))] | _ => .any }
def sp_Itoa : Sp := { pre := fun ds => ∃ n : Int, ds = [.int .i64 n] ∧ inR .i64 n, F := fun | [.int _ n] => .str (Lib.itoa n) | _ => .any }
def wc (w : List UInt8) : List D := [.str w]
def sp_Split : Sp := { pre := fun ds => ∃ s c, ds = [.str s, .str [c]] ∧ s.length ≤ 4000000, F := fun | [.str s, .str c] => .fz 1 ((Lib.split s c).map wc) | _ => .any }
theorem atoi_F (s : List UInt8) : sp_Atoi.F [.str s] = .tup [.int .i64 (atoiV s), .err (some (atoiOk s))] := rfl
theorem atoi_pre {s : List UInt8} (h : s.length ≤ 4000000) : sp_Atoi.pre [.str s] = True := by
  simp only [sp_Atoi, eq_iff_iff, iff_true]; exact ⟨s, rfl, h⟩
theorem itoa_F (n : Int) : sp_Itoa.F [.int .i64 n] = .str (Lib.itoa n) := rfl
theorem itoa_pre {n : Int} (h : inR .i64 n) : sp_Itoa.pre [.int .i64 n] = True := by
  simp only [sp_Itoa, eq_iff_iff, iff_true]; exact ⟨n, rfl, h⟩
theorem split_F (s : List UInt8) (c : UInt8) : sp_Split.F [.str s, .str [c]] = .fz 1 ((Lib.split s [c]).map wc) := rfl
theorem split_pre {s : List UInt8} {c : UInt8} (h : s.length ≤ 4000000) : sp_Split.pre [.str s, .str [c]] = True := by
  simp only [sp_Split, eq_iff_iff, iff_true]; exact ⟨s, c, rfl, h⟩
theorem atoiV_inR (s : List UInt8) : inR .i64 (atoiV s) := by
  unfold atoiV
  simp only [inR]
  split
  · rename_i n h
    unfold Lib.atoiAll at h
    split at h
    · cases h
    · simp only at h
      split at h
      · cases h
      · cases h
      · split at h
        · cases h
        · split at h
          · cases h
          · simp only [Lib.NumEnd.ok.injEq] at h
            subst h
            split <;> omega
  · unfold Lib.atoiSat; split <;> omega
  · omega
end Go.Proofs.YthiggepiihoooaaDoor
