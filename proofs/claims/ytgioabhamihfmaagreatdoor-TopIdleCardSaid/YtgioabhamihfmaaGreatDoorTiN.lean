/-
  Where nothing is: crashes and starts of sites, what they are to do. Conditions: those of each specification's 'pre', and that the functions that are called are what theirs say.
-/
import Derived.Test.YtgioabhamihfmaaGreatDoorTiF
set_option linter.unusedVariables false
set_option linter.unusedSimpArgs false
namespace Go.Proofs.YtgioabhamihfmaaGreatDoor
open Go Go.Vcg

/-- An act's cells. -/
def aC (kd st to lb pk : Int) (kp : List Int) (c1 c2 c3 c4 c5 : Int) (ln : List UInt8) : D :=
  .agg [.int .i64 kd, .int .i64 st, .int .i64 to, .int .i64 lb, .int .i64 pk, .fz 1 (kp.map fun k => [.int .i64 k]), .int .i64 c1, .int .i64 c2, .int .i64 c3, .int .i64 c4, .int .i64 c5, .str ln]
def okA (n L : Nat) (st to lb pk : Int) (kp : List Int) : Prop := (0 ≤ st ∧ st < n) ∧ (0 ≤ to ∧ to < n) ∧ (0 ≤ lb ∧ lb < L) ∧ 0 ≤ pk ∧ kp.length ≤ L ∧ ∀ k ∈ kp, 0 ≤ k ∧ k ≤ 6000
def qAct (p : Int → Prop) (n L : Nat) (xs : List D) : Prop := ∃ kd st to lb pk kp c1 c2 c3 c4 c5 ln, xs = [aC kd st to lb pk kp c1 c2 c3 c4 c5 ln] ∧ okA n L st to lb pk kp ∧ p kd
def upOb (s : Int) (b : Bool) : List (Nat × Ob) → List (Nat × Ob)
  | w :: x :: y :: (k, .row z us) :: r => w :: x :: y :: (k, .row z (us.set s.toNat [.bool b])) :: r
  | l => l
def hs_Crash : HSp := ⟨pCl (qAct fun _ => True), fun ds ob => (.tup [], match ds with | [_, .agg (_ :: .int _ s :: _)] => upOb s false ob | _ => ob)⟩
def sp_Crash0 : Sp := { pre := fun _ => True, F := fun _ => .any, hx := some hs_Crash }
theorem cra_hx : sp_Crash0.hx = some hs_Crash := rfl
theorem cra_pre : hs_Crash.pre = pCl (qAct fun _ => True) := rfl
theorem cra_F (x k : D) (s : Int) (r : List D) (w a b : Nat × Ob) (m z : Nat) (us : List (List D)) : hs_Crash.F [x, .agg (k :: .int .i64 s :: r)] [w, a, b, (m, .row z us)] = (.tup [], [w, a, b, (m, .row z (us.set s.toNat [.bool false]))]) := rfl
def hs_Start : HSp := ⟨pCl fun n _ xs => ∃ s : Int, xs = [.int .i64 s] ∧ 0 ≤ s ∧ s < n, fun ds ob => (.tup [], match ds with | [_, .int _ s] => upOb s true ob | _ => ob)⟩
def sp_Start0 : Sp := { pre := fun _ => True, F := fun _ => .any, hx := some hs_Start }
theorem sta_hx : sp_Start0.hx = some hs_Start := rfl
theorem sta_pre : hs_Start.pre = pCl fun n _ xs => ∃ s : Int, xs = [.int .i64 s] ∧ 0 ≤ s ∧ s < n := rfl
theorem sta_F (x : D) (s : Int) (w a b : Nat × Ob) (m z : Nat) (us : List (List D)) : hs_Start.F [x, .int .i64 s] [w, a, b, (m, .row z us)] = (.tup [], [w, a, b, (m, .row z (us.set s.toNat [.bool true]))]) := rfl
theorem ups_set {up : List Bool} {j : Nat} {b : Bool} (h : j < up.length) (hb : up.getD j false = b) : (up.map fun b => [D.bool b]).set j [.bool b] = up.map fun b => [.bool b] := by
  have e : up[j] = b := by simpa [List.getD, h] using hb
  subst e
  apply List.ext_getElem
  · simp
  · intro k h1 h2
    by_cases hk : j = k
    · subst hk; simp
    · simp [List.getElem_set_ne hk]
theorem elem_kp {kp : List Int} {j : Nat} (h : j < kp.length) : elem (kp.map fun k => [.int .i64 k]) j = [.int .i64 (kp.getD j 0)] := by
  simp [elem, List.getD, h]

def tickOb : List (Nat × Ob) → List (Nat × Ob)
  | (k, .box [a, b, c, d, e, f, .int _ t, g]) :: r => (k, .box [a, b, c, d, e, f, .int .i64 (t + 1), g]) :: r
  | l => l
def hs_Tick : HSp := ⟨pCl (fun _ _ xs => xs = []), fun _ ob => (.tup [], tickOb ob)⟩
def sp_Tick0 : Sp := { pre := fun _ => True, F := fun _ => .any, hx := some hs_Tick }
theorem tk_hx : sp_Tick0.hx = some hs_Tick := rfl
theorem tk_pre : hs_Tick.pre = pCl (fun _ _ xs => xs = []) := rfl
theorem tk_F (ds : List D) (k : Nat) (a b c d e f g : D) (t : Int) (r : List (Nat × Ob)) : hs_Tick.F ds ((k, .box [a, b, c, d, e, f, .int .i64 t, g]) :: r) = (.tup [], (k, .box [a, b, c, d, e, f, .int .i64 (t + 1), g]) :: r) := rfl

def pTak : List D → List (Nat × Ob) → Prop := pCl (qAct fun k => k = 2 ∨ k = 3 ∨ k = 4)
def sp_CTake : Sp := spI pTak (.tup [])
def actOb (k s : Int) (ob : List (Nat × Ob)) : List (Nat × Ob) := if k = 5 then tickOb ob else if k = 6 then upOb s false ob else if k = 7 then upOb s true ob else ob
def hs_Act : HSp := ⟨pCl (qAct fun k => 2 ≤ k ∧ k ≤ 7), fun ds ob => (.tup [], match ds with | [_, .agg (.int _ k :: .int _ s :: _)] => actOb k s ob | _ => ob)⟩
def sp_Act0 : Sp := { pre := fun _ => True, F := fun _ => .any, hx := some hs_Act }
theorem act_hx : sp_Act0.hx = some hs_Act := rfl
theorem act_F (x : D) (k s : Int) (r : List D) (ob : List (Nat × Ob)) : hs_Act.F [x, .agg (.int .i64 k :: .int .i64 s :: r)] ob = (.tup [], actOb k s ob) := rfl

end Go.Proofs.YtgioabhamihfmaaGreatDoor
