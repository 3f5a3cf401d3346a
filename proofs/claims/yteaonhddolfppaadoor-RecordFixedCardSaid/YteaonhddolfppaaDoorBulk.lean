/-
  A []byte parameter is read: its bytes, and that there are not more of them than the reading's bulk. Conditions: those of each theorem.
-/
import Derived.Test.YteaonhddolfppaaDoorRows
import Derived.Test.YteaonhddolfppaaDoorVcgD
set_option linter.unusedVariables false
namespace Go.Proofs.YteaonhddolfppaaDoor
open Go Go.Vcg

theorem one_le {H : Type} (d : DataW H) : 1 ≤ Rows.uptoBulk d := by
  cases d with
  | lit l => cases l <;> simp [Rows.uptoBulk]
  | nil => simp [Rows.uptoBulk]
  | ptr d => simp [Rows.uptoBulk]
  | slice elems spare => simp [Rows.uptoBulk]
  | agg parts => simp [Rows.uptoBulk]
  | iface t d => simp [Rows.uptoBulk]
  | map entries => simp [Rows.uptoBulk]
  | held h => simp [Rows.uptoBulk]
theorem length_le_bulk {H : Type} (l : List (DataW H)) : l.length ≤ Rows.uptoBulkAll l := by
  induction l with
  | nil => simp [Rows.uptoBulkAll]
  | cons x r ih => have := one_le x; simp only [Rows.uptoBulkAll, List.length_cons]; omega

theorem rdE_bytes {X : Nat → Prop} {w : World} : ∀ ns : List Int, RdE X w 1 (ns.map fun n => [.int .u8 n]) (ns.map fun n => Value.int .u8 n)
  | [] => by simp [RdE]
  | n :: ns => by
    simp only [List.map_cons, RdE]
    exact ⟨[.int .u8 n], _, rfl, rfl, by simp [RdL, Rd], rdE_bytes ns⟩
theorem byte_of_wf {n : Int} (h : (Lit.int .u8 n).wf = true) : 0 ≤ n ∧ n < 256 := by
  simp only [Lit.wf, Bool.and_eq_true, IntKind.min, IntKind.max, IntKind.signed, IntKind.bits] at h
  simp at h
  omega

section
variable {H : Type} {enc : TypeId × Value → H} {P : Program} {W : World} {r : Reach} {b0 : Nat}
theorem bytes_read {t e : TypeId} (ht : P.underlying t = some (.slice e)) (he : P.underlying e = some (.int .u8)) (hc : P.cellsOf e = 1) (hb1 : P.bytesOf e = 1) {v : Value} {d : DataW H} {ps : List MemPlace} (hval : Value.okWide P W r b0 t v)
    (h : DataW.Trod enc P W 0 (fun _ => true) true t v d ps) : ∃ ns : List Int, Rd (fun _ => False) W none (.fz 1 (ns.map fun n => [.int .u8 n])) v ∧ (∀ n ∈ ns, 0 ≤ n ∧ n < 256) ∧ ns.length ≤ Rows.uptoBulk d ∧ ((d.weights P t).all (fun n => decide (n ≤ reachBytes)) = true → ns.length ≤ reachBytes) := by
  obtain ⟨a0, len0, cap0, rfl⟩ := WideShapes.okWide_slice ht hval
  obtain ⟨fuel, hf⟩ := h
  rcases ChangeShapes.open_ints ht he hc hf with ⟨hcs, hx⟩ | ⟨a, len, cap, zs, hcs, _, hle, hmax, hall, hx, hcell, hwf⟩
  · simp [Value.cells] at hcs
    obtain ⟨rfl, rfl, rfl⟩ := hcs
    exact ⟨[], by simp only [Rd]; exact .inl ⟨⟨_, rfl⟩, rfl⟩, by simp, by simp, fun _ => by simp⟩
  · simp [Value.cells] at hcs
    obtain ⟨rfl, rfl, rfl⟩ := hcs
    simp only [if_true] at hall
    have hbulk : (zs.take len0).length ≤ Rows.uptoBulk d := by
      simp only [Prod.mk.injEq] at hx
      rw [hx.1]
      have := length_le_bulk (ChangeShapes.lits (H := H) .u8 (zs.take len0))
      simp only [ChangeShapes.lits, List.length_map] at this
      simp only [Rows.uptoBulk, ChangeShapes.lits]
      omega
    have hwt : (d.weights P t).all (fun n => decide (n ≤ reachBytes)) = true → (zs.take len0).length ≤ reachBytes := by
      simp only [Prod.mk.injEq] at hx
      rw [hx.1, DataW.weights, ht]
      simp only [List.all_cons, Bool.and_eq_true, decide_eq_true_eq, hb1, Nat.mul_one]
      intro hw
      have := hw.1
      simp only [ChangeShapes.lits, List.length_map] at this
      omega
    refine ⟨zs.take len0, ?_, fun n hn => byte_of_wf (hwf n (List.mem_of_mem_take hn)), hbulk, hwt⟩
    have hlen : ((zs.take len0).map fun n => ([.int .u8 n] : List D)).length = len0 := by simp; omega
    simp only [Rd]
    by_cases hp : 0 < zs.length
    · obtain ⟨b, off, rfl, hc2⟩ := ints_at hcell hp
      refine .inr ⟨b, off, cap0, (zs.take len0).map fun n => .int .u8 n, by rw [hlen], by rw [hlen]; exact hle, hmax, fun h => h, ?_, rdE_bytes _, fun u hu => ?_⟩
      · obtain ⟨arr, T, fr, h1, _⟩ := cell_block (hc2 0 hp)
        refine ⟨arr, T, fr, h1, fun j u hu => ?_⟩
        obtain ⟨n, hn, rfl⟩ : ∃ n, (zs.take len0)[j]? = some n ∧ Value.int .u8 n = u := by rw [List.getElem?_map, Option.map_eq_some_iff] at hu; exact hu
        rw [List.getElem?_take] at hn
        split at hn
        · have hj : j < zs.length := (List.getElem?_eq_some_iff.1 hn).1
          obtain ⟨arr', T', fr', g1, g2⟩ := cell_block (hc2 j hj)
          rw [h1] at g1
          simp only [Option.some.injEq, Obj.cells.injEq] at g1
          obtain ⟨rfl, _, _⟩ := g1
          rw [g2]
          simp [List.getD, hn]
        · cases hn
      · obtain ⟨n, _, rfl⟩ := List.mem_map.1 hu
        rfl
    · have h0 : zs.length = 0 := by omega
      have hc0 : cap0 = 0 := by omega
      have hl0 : len0 = 0 := by omega
      subst hc0 hl0
      exact .inl ⟨⟨_, rfl⟩, by simp⟩
end
end Go.Proofs.YteaonhddolfppaaDoor
