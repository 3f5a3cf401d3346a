/-
  An array of strings that the program text lays: what the row's condition says of its cells. Conditions: those that each theorem names.
-/
import Derived.Test.YthiggepiihoooaaDoorCsL
import Derived.Lib.LaidTab
import Derived.ChangeArms
set_option linter.unusedVariables false
namespace Go.Proofs.YthiggepiihoooaaDoor
open Go Go.Vcg Go.RowKit Go.Lib

def strData {H : Type} (zs : List (List UInt8)) : DataW H := .agg (zs.map fun z => .lit (.string z))
def strV (z : List UInt8) : Value := .string ⟨z.toArray⟩
theorem cells_of_strs {H : Type} {enc : TypeId × Value → H} {P : Program} {w : World} {base : Nat} {sp : Nat → Bool} {held : Bool} {fuel : Nat} {t e : TypeId} {n : Nat} {cs : List Value} {zs : List (List UInt8)} {p : List MemPlace}
    (ht : P.underlying t = some (.array n e)) (he : P.underlying e = some .string) (hce : P.cellsOf e = 1) (hct : P.cellsOf t = n)
    (h : DataW.trod enc P w base sp held fuel t cs = some (strData zs, p)) : cs = zs.map strV := by
  cases fuel with
  | zero => simp [DataW.trod] at h
  | succ fuel =>
    simp only [DataW.trod, ht, hce, hct, Nat.mul_one] at h
    split at h
    · rename_i hl
      obtain ⟨xs, hm, hx⟩ := Option.map_eq_some_iff.1 h
      have hxs : xs.map (·.1) = zs.map fun z => (DataW.lit (.string z) : DataW H) := by
        have := congrArg Prod.fst hx
        simpa [strData] using this
      have hxl : xs.length = n := by simpa using mapM_length hm
      have hzl : zs.length = n := by
        have := congrArg List.length hxs
        simp at this
        omega
      apply List.ext_getElem?
      intro i
      by_cases hi : i < n
      · obtain ⟨b, hb, hf⟩ := mapM_at hm i i (by simp [hi])
        obtain ⟨z, hc, rfl, _⟩ := DataW.trod_string he hf
        have h1 : cs[i]? = some (.string z) := by
          have := congrArg (·[0]?) hc
          simpa [List.getElem?_take, List.getElem?_drop] using this
        have h2 : (xs.map (·.1))[i]? = some (DataW.lit (.string z.data.toList) : DataW H) := by simp [hb]
        rw [hxs] at h2
        simp only [List.getElem?_map, Option.map_eq_some_iff, DataW.lit.injEq, Lit.string.injEq] at h2
        obtain ⟨z', hz', hz2⟩ := h2
        have e2 : strV z' = .string z := by unfold strV; rw [hz2]
        simp [h1, hz', e2]
      · rw [List.getElem?_eq_none (by omega), List.getElem?_eq_none (by simp; omega)]
    · cases h
theorem rdE_strs {X : Nat → Prop} {w : World} : ∀ zs : List (List UInt8), RdE X w 1 (zs.map wc) (zs.map strV)
  | [] => by simp [RdE]
  | z :: r => by
    simp only [List.map_cons, RdE]
    refine ⟨[strV z], r.map strV, rfl, rfl, ?_, rdE_strs r⟩
    simp only [wc, RdL, Rd]
    exact ⟨_, _, rfl, rfl, rfl⟩
/-- From the row's condition to what a walk reads: the array stands first on the list. -/
theorem strs_at {P : Program} {W : World} {X : Nat → Prop} {name : String} {zs : List (List UInt8)} {rest : List (String × DataW Unit)} {g : Nat} {t e : TypeId} {n : Nat}
    (hg : P.globalNamed name = some g) (hty : (P.globals[g]?).map (·.type) = some t) (ht : P.underlying t = some (.array n e)) (he : P.underlying e = some .string) (hce : P.cellsOf e = 1) (hct : P.cellsOf t = n) (hz : 0 < zs.length) (hX : ¬ X g)
    (h : laidMet P ((name, strData zs) :: rest) W) : Rd X W none (.ad 1 (zs.map wc) 0 0) (.pointer (some ⟨g, 0, none⟩)) := by
  obtain ⟨ps, ⟨g', t', cs, fuel, p, q, hg', ht', hvar, hd, _, _⟩, _⟩ := h
  obtain rfl := Option.some.inj (hg.symm.trans hg')
  obtain rfl := Option.some.inj (hty.symm.trans ht')
  refine table_at hg hvar ?_ hX (by simpa using hz) (by decide)
  rw [cells_of_strs ht he hce hct hd]
  exact rdE_strs zs
end Go.Proofs.YthiggepiihoooaaDoor
