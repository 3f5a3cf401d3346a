/-
  What operators see, as lists of bytes: plain functions and their laws. No program. Conditions: those that each theorem names.
-/
import Derived.Test.YtghehknnaifoeaaDoorStZ
import Derived.Test.YtghehknnaifoeaaDoorCsL
set_option linter.unusedVariables false
set_option linter.unusedSimpArgs false
namespace Go.Proofs.YtghehknnaifoeaaDoor
open Go Go.Vcg

/-- A note of what was forced. -/
structure Nt where
  (site n : Int) (yes damage : Bool)
def ntC (x : Nt) : List D := [.int .i64 x.site, .int .i64 x.n, .bool x.yes, .bool x.damage]
noncomputable def prepB (s : Sto) (t : Tx) : Bool := decide ((writesS s t).2 = 0) && decide (0 < (writesS s t).1)
def wordsS (l : Int) (t : Tx) : List UInt8 := Lib.itoa l ++ 32 :: (Lib.itoa t.1 ++ 32 :: Lib.itoa t.2)
def doubtS (l : Int) (d : Db) : List UInt8 := wordsS l (d.site, d.n) ++ 32 :: (Lib.itoa d.age ++ [10])
noncomputable def listS (l : Int) (s : Sto) (ds : List Db) : List UInt8 := ds.flatMap fun d => if prepB s (d.site, d.n) = true then doubtS l d else []
def noteS (l : Int) (x : Nt) : List UInt8 := wordsS l (x.site, x.n) ++ ((if x.yes = true then [32, 99, 111, 109, 109, 105, 116] else [32, 97, 98, 111, 114, 116]) ++ ((if x.damage = true then [32, 100, 97, 109, 97, 103, 101] else []) ++ [10]))
def auditS (l : Int) (ns : List Nt) : List UInt8 := ns.flatMap (noteS l)
/-- A number that is written in ten digits at most. -/
def inN (n : Int) : Prop := 0 ≤ n ∧ n < 10000000000
theorem itoa_len {n : Int} (h : inN n) : (Lib.itoa n).length ≤ 10 := by
  obtain ⟨h0, h1⟩ := h
  obtain ⟨u, rfl⟩ : ∃ u : Nat, n = u := ⟨n.toNat, by omega⟩
  rw [itoa_nat]
  have hk : ∀ (k u : Nat), u < 10 ^ (k + 1) → (Lib.decDigits u).length ≤ k + 1 := by
    intro k
    induction k with
    | zero => intro u h; rw [dd_lt (by simpa using h)]; simp
    | succ k ih =>
      intro u h
      by_cases h1 : u < 10
      · rw [dd_lt h1]; simp
      · rw [dd_ge h1]
        have := ih (u / 10) (by rw [Nat.div_lt_iff_lt_mul (by omega)]; rw [Nat.pow_succ] at h; exact h)
        simp only [List.length_append, List.length_cons, List.length_nil]; omega
  exact hk 9 u (by omega)
theorem words_len {l : Int} {t : Tx} (hl : inN l) (h1 : inN t.1) (h2 : inN t.2) : (wordsS l t).length ≤ 32 := by
  have a := itoa_len hl
  have b := itoa_len h1
  have c := itoa_len h2
  unfold wordsS
  simp only [List.length_append, List.length_cons]
  omega
def okD (d : Db) : Prop := inN d.site ∧ inN d.n ∧ inN d.age
def okN (x : Nt) : Prop := inN x.site ∧ inN x.n
theorem doubt_len {l : Int} {d : Db} (hl : inN l) (h : okD d) : (doubtS l d).length ≤ 50 := by
  have a := words_len (t := (d.site, d.n)) hl h.1 h.2.1
  have b := itoa_len h.2.2
  unfold doubtS
  simp only [List.length_append, List.length_cons, List.length_nil]
  omega
theorem note_len {l : Int} {x : Nt} (hl : inN l) (h : okN x) : (noteS l x).length ≤ 50 := by
  have a := words_len (t := (x.site, x.n)) hl h.1 h.2
  unfold noteS
  split <;> split <;> simp only [List.length_append, List.length_cons, List.length_nil] <;> omega
theorem list_len {l : Int} (s : Sto) (hl : inN l) : ∀ {ds : List Db}, (∀ d ∈ ds, okD d) → (listS l s ds).length ≤ 50 * ds.length
  | [], _ => by simp [listS]
  | d :: ds, h => by
    have h1 := doubt_len hl (h d (by simp))
    have h2 := list_len s hl (ds := ds) fun x hx => h x (by simp [hx])
    simp only [listS, List.flatMap_cons, List.length_append, List.length_cons] at h2 ⊢
    split
    · omega
    · simp only [List.length_nil]; omega
theorem audit_len {l : Int} (hl : inN l) : ∀ {ns : List Nt}, (∀ x ∈ ns, okN x) → (auditS l ns).length ≤ 50 * ns.length
  | [], _ => by simp [auditS]
  | d :: ds, h => by
    have h1 := note_len hl (h d (by simp))
    have h2 := audit_len hl (ns := ds) fun x hx => h x (by simp [hx])
    simp only [auditS, List.flatMap_cons, List.length_append, List.length_cons] at h2 ⊢
    omega
theorem list_snoc (l : Int) (s : Sto) (ds : List Db) (d : Db) : listS l s (ds ++ [d]) = listS l s ds ++ if prepB s (d.site, d.n) = true then doubtS l d else [] := by simp [listS]
theorem audit_snoc (l : Int) (ns : List Nt) (x : Nt) : auditS l (ns ++ [x]) = auditS l ns ++ noteS l x := by simp [auditS]
end Go.Proofs.YtghehknnaifoeaaDoor
