/-
  The functions on raw numbers compute what the plain functions beside them say. Conditions: those of each specification's 'pre'.
-/
import Derived.Test.YtghehknnaifoeaaDoorIr
set_option linter.unusedVariables false
set_option linter.unusedSimpArgs false
namespace Go.Proofs.YtghehknnaifoeaaDoor
open Go Go.Vcg

/-! ### Plain functions -/
def pk (n m : Int) : Int := (if n < 0 then -(n + 1) else n).tmod m
theorem pk_bounds (n m : Int) (hm : 0 < m) : 0 ≤ pk n m ∧ pk n m < m := by
  unfold pk
  have h0 : 0 ≤ (if n < 0 then -(n + 1) else n) := by split <;> omega
  exact ⟨Int.tmod_nonneg _ h0, Int.tmod_lt_of_pos _ hm⟩

theorem tdiv_eq (n m : Int) : n.tdiv m = if 0 ≤ n then n / m else -((-n) / m) := by
  split
  · exact Int.tdiv_eq_ediv_of_nonneg (by omega)
  · have : n = -(-n) := by omega
    rw [this, Int.neg_tdiv, Int.tdiv_eq_ediv_of_nonneg (by omega)]
    simp

def sp_picked : Sp := { pre := fun ds => ∃ n m, ds = [.int .i64 n, .int .i64 m] ∧ inR .i64 n ∧ 0 < m, F := fun | [.int _ n, .int _ m] => .int .i64 (pk n m) | _ => .any }
section
variable {T : Tb}
attribute [local simp] k_seq k_block k_skip k_reg k_alt k_cond k_exit k_ret kf_nil kf_seq_n kf_seq_e kf_seq_r kf_blk_n kf_blk_e kf_blk_r kf_lp_n kf_lp_e kf_lp_r kf_cut_n kf_cut_e kf_cut_r mkTm VCops VCalt istep act gd applyE wrapD Opd.ev get_mk set_mk set_mk0 tget16 tset16 tget_0 tset_0 tget_1 tset_1 tget_2 tset_2 tget_3 tset_3 tget_4 tset_4 tget_5 tset_5 tget_6 tset_6 tget_7 tset_7 tget_8 tset_8 tget_9 tset_9 tget_10 tset_10 tget_11 tset_11 tget_12 tset_12 tget_13 tset_13 tget_14 tset_14 tget_15 tset_15 D.un D.gu gus IOp.opds binD fnPost getRes IRes.get oneRes D.out outL D.clos closL D.norow norowL D.lv lvL D.scal scalL D.cells D.cell D.cell' St.lk obPut obDel List.lookup cut pickD splice fillParts fillRows elem_cons newsOf D.pl D.forget forgetL Ob.forget forgetO eqCells sg leD leDL leOb apartK St.le D.keys keysL D.rows rowsL obKeys addKeys reach pos D.ren renL Ob.ren inM outM inObs outObs goneK apartN okNames_eq okNms obNms namesOK_nil namesOK_cons freeOK_nil freeOK_cons D.frz frzL Ob.frz frzO St.frz forgetLs dropObs putObs hcall freeOf keeps baseN shD isShift shMax k_bad VCopsG frz_nil actx actc cnum vwCut St.frzT St.opnT St.clsT D.opn opnL Ob.opn opnO VCou VCcx St.oneS D.objI D.objK scrL D.scr St.opnS St.clsS D.cellS D.fzs fzsL k_mrk k_mrq IOper.gh
theorem v_picked : Verified T ir_reredoskeep_picked sp_picked := by
  refine Verified.mk ?_
  rintro ds ⟨n, m, rfl, hn, hm⟩
  simp only [inR] at hn
  simp [ir_reredoskeep_picked, sp_picked, pk, inR]
  refine ⟨fun h => ?_, fun h => ?_⟩
  · refine ⟨by omega, by omega, by omega, ?_⟩
    rw [if_pos h, Int.neg_tmod]
  · refine ⟨by omega, ?_⟩
    rw [if_neg (by omega)]
end

structure Rw where
  (k a b c d e : Int)
def rawC (r : Rw) : List D := [.int .i64 r.k, .int .i64 r.a, .int .i64 r.b, .int .i64 r.c, .int .i64 r.d, .int .i64 r.e]
def rawD (r : Rw) : D := .agg (rawC r)
def rawOf : D → Rw
  | .agg [.int _ k, .int _ a, .int _ b, .int _ c, .int _ d, .int _ e] => ⟨k, a, b, c, d, e⟩
  | _ => ⟨0, 0, 0, 0, 0, 0⟩
theorem rawOf_rawD (r : Rw) : rawOf (rawD r) = r := rfl
def okRaw (r : Rw) : Prop := inR .i64 r.k ∧ inR .i64 r.a ∧ inR .i64 r.b ∧ inR .i64 r.c ∧ inR .i64 r.d ∧ inR .i64 r.e

def rwL (r : Rw) : List Int := [r.k, r.a, r.b, r.c, r.d, r.e]
theorem rw_of {ns : List Int} (h : ns.length = 6) (w : ∀ n ∈ ns, inR .i64 n) : ∃ r : Rw, ns = rwL r ∧ okRaw r := by
  match ns, h with
  | [k, a, b, c, d, e], _ => exact ⟨⟨k, a, b, c, d, e⟩, rfl, w k (by simp), w a (by simp), w b (by simp), w c (by simp), w d (by simp), w e (by simp)⟩
theorem rd_raw {X : Nat → Prop} {w : World} {c : Option Cx} (r : Rw) : Rd X w c (rawD r) (.agg ((rwL r).map (.int .i64)).toArray) := by
  simp only [rawD, Rd]
  exact ⟨_, rfl, rdL_ints (rwL r)⟩
def rawsD (l : List Rw) : D := .fz 6 (l.map rawC)
theorem rws_of : ∀ {rs : List (List Int)}, (∀ ns ∈ rs, ns.length = 6 ∧ ∀ n ∈ ns, inR .i64 n) → ∃ l : List Rw, rs = l.map rwL ∧ ∀ r ∈ l, okRaw r
  | [], _ => ⟨[], rfl, by simp⟩
  | ns :: rs, h => by
    obtain ⟨r, rfl, h1⟩ := rw_of (h ns (by simp)).1 (h ns (by simp)).2
    obtain ⟨l, rfl, h2⟩ := rws_of (rs := rs) fun x hx => h x (by simp [hx])
    exact ⟨r :: l, rfl, fun x hx => by
      rcases List.mem_cons.1 hx with rfl | hx
      · exact h1
      · exact h2 x hx⟩
theorem rd_raws {X : Nat → Prop} {w : World} {c : Option Cx} {l : List Rw} {v : Value} (h : Rd X w c (.fz 6 ((l.map rwL).map fun ns => ns.map (.int .i64))) v) : Rd X w c (rawsD l) v := by
  rw [List.map_map] at h; exact h
/-- A slice of raw numbers that may be. -/
def okRaws (l : List Rw) : Prop := (∀ r ∈ l, okRaw r) ∧ l.length ≤ 9223372036854775807

def rawsOf : D → List Rw
  | .fz _ es => es.map fun e => rawOf (.agg e)
  | _ => []
theorem rawsOf_rawsD (l : List Rw) : rawsOf (rawsD l) = l := by
  simp only [rawsOf, rawsD, List.map_map]
  have : (fun e => rawOf (.agg e)) ∘ rawC = id := rfl
  rw [this, List.map_id]

end Go.Proofs.YtghehknnaifoeaaDoor
