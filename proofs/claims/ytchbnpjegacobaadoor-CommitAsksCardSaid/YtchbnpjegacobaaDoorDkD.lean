/-
  Desks where there are two labels: what calls and messages do to them. No conditions but those that each theorem names.
-/
import Derived.Test.YtchbnpjegacobaaDoorDkC
set_option linter.unusedVariables false
set_option linter.unusedSimpArgs false
namespace Go.Proofs.YtchbnpjegacobaaDoor
open Go Go.Vcg

theorem ans_next (h : Hd) (w : Wd) (i : Nat) (j : Jb) (m : Ms) (b : Bool) : (ansW h w i j m b).next = w.next := by
  unfold ansW; split
  · split
    · rfl
    · split <;> rfl
  · rfl
theorem com_next (h : Hd) (w : Wd) (i : Nat) : (comW h w i).next = w.next := rfl
theorem end_next (h : Hd) (w : Wd) (i : Nat) : (endW h w i).next = w.next := rfl
theorem sure_next (h : Hd) (w : Wd) (i : Nat) (j : Jb) (m : Ms) : (sureW h w i j m).next = w.next := by
  unfold sureW; split
  · split
    · split
      · split <;> rfl
      · rfl
    · rfl
  · rfl
theorem ack_next (h : Hd) (w : Wd) (i : Nat) (m : Ms) : (ackW h w i m).next = w.next := by
  unfold ackW; split
  · unfold ackWL; split <;> rfl
  · rfl
theorem askd_next (h : Hd) (w : Wd) (p : Int) (m : Ms) : (askdW h w p m).next = w.next := by
  unfold askdW; split
  · rfl
  · split <;> rfl
theorem hear_next (h : Hd) (w : Wd) (m : Ms) (p : Int) : (hearW h w m p).next = w.next := by
  unfold hearW; split
  · exact askd_next h w p m
  · split
    · rfl
    · unfold hearP; split
      · exact ans_next ..
      · split
        · exact ans_next ..
        · split
          · exact sure_next ..
          · exact ack_next ..
theorem cg_next (h : Hd) (w : Wd) (i : Nat) : (cgW h w i).next = w.next := by
  unfold cgW; split <;> rfl
theorem call_next (h : Hd) (w : Wd) (room : Int) (x : Cl) : (callW h w room x).next ≤ w.next + 1 := by
  unfold callW; split
  · unfold begW; split
    · show w.next ≤ w.next + 1; omega
    · exact Int.le_refl _
  · split
    · unfold callP; split
      · show w.next ≤ w.next + 1; omega
      · split
        · show w.next ≤ w.next + 1; omega
        · split
          · rw [cg_next]; omega
          · show w.next ≤ w.next + 1; omega
    · show w.next ≤ w.next + 1; omega
theorem keepH_next (h : Hd) (d : Int × List Jb) (m : Ms) : (keepD (hearT h d.1 d.2 m) d).1 = d.1 := by
  unfold keepD
  split
  · rename_i h1
    unfold hearT at h1 ⊢
    split
    · exact hear_next ..
    · rename_i h2; rw [if_neg h2] at h1; exact absurd h1 h2
  · rfl
theorem backS_next (h : Hd) (r : Rw) (d : Int × List Jb) (e : List D) : (backS h r d e).1 = d.1 := by
  unfold backS; split
  · exact keepH_next ..
  · rfl
theorem fold_next (h : Hd) (r : Rw) : ∀ (l : List (List D)) (d : Int × List Jb), (l.foldl (backS h r) d).1 = d.1
  | [], _ => rfl
  | e :: l, d => by rw [List.foldl_cons, fold_next h r l, backS_next]
theorem step_next (h : Hd) (d : Int × List Jb) (r : Rw) : (deskStep h d r).1 ≤ d.1 + 1 := by
  unfold deskStep; split
  · unfold deskC; split
    · rename_i h1 h2
      rw [fold_next]
      unfold callT at h2 ⊢
      split
      · exact call_next ..
      · rename_i h3; rw [if_neg h3] at h2; exact absurd h2 h3
    · omega
  · rw [keepH_next]; omega
theorem desk_next (h : Hd) (l : List Rw) : (deskT h l).1 ≤ 1 + l.length := by
  have : ∀ (l : List Rw) (d : Int × List Jb), (l.foldl (deskStep h) d).1 ≤ d.1 + l.length := by
    intro l
    induction l with
    | nil => intro d; simp
    | cons r l ih =>
      intro d
      rw [List.foldl_cons]
      have h1 := ih (deskStep h d r)
      have h2 := step_next h d r
      rw [List.length_cons]; omega
  exact this l (1, [])
theorem beg2 {S l me : Int} (hS : 1 ≤ S ∧ S ≤ 4) (hl : 0 ≤ l ∧ l ≤ 1) (hm : 0 ≤ me ∧ me < S) {d : Int × List Jb} (hd : DkO (hd2 S l me) d) : begE (hd2 S l me) d.1 d.2 = 0 := by
  have h := okHd_2 hS hl hm
  exact beg_zero h.1 hd h.2.1 h.2.2
theorem placeJ_none {js : List Jb} {k : Int} (h : ∀ j ∈ js, j.n ≠ k) : placeJ js k = -1 :=
  idxOf_none fun i hi => by simpa using h _ (List.getElem_mem hi)
theorem call2_F (S l me : Int) (d : Int × List Jb) (room : Int) (x : Cl) : sp_Call.F [cfgD S ls2 3, .int .i64 l, .int .i64 me, dkD d, .int .i64 room, .agg (clC x)] = .tup [.agg (trnC (callT (hd2 S l me) d.1 d.2 room x).1), .int .i64 (callT (hd2 S l me) d.1 d.2 room x).2] := call_F (hd2 S l me) d.1 d.2 room x
theorem call2_pre (S l me : Int) {d : Int × List Jb} (room : Int) (x : Cl) (hd : fewD d) : sp_Call.pre [cfgD S ls2 3, .int .i64 l, .int .i64 me, dkD d, .int .i64 room, .agg (clC x)] = True := call_pre (hd2 S l me) d.1 room x hd.1 hd.2
theorem hear2_F (S l me : Int) (d : Int × List Jb) (m : Ms) : sp_Hear.F [cfgD S ls2 3, .int .i64 l, .int .i64 me, dkD d, .agg (msgC m)] = .tup [.agg (trnC (hearT (hd2 S l me) d.1 d.2 m).1), .int .i64 (hearT (hd2 S l me) d.1 d.2 m).2] := hear_F (hd2 S l me) d.1 d.2 m
theorem hear2_pre (S l me : Int) {d : Int × List Jb} (m : Ms) (hd : fewD d) : sp_Hear.pre [cfgD S ls2 3, .int .i64 l, .int .i64 me, dkD d, .agg (msgC m)] = True := hear_pre (hd2 S l me) d.1 m hd.1 hd.2
theorem callE_ok {h : Hd} {next : Int} {js : List Jb} {x : Cl} (hb : begE h next js = 0) (hk : 1 ≤ x.kind ∧ x.kind ≤ 5) : callE h next js x = 0 := by
  unfold callE
  rw [if_neg (fun e => e hb), if_neg (by omega)]
theorem callT_ok {h : Hd} {next : Int} {js : List Jb} (room : Int) {x : Cl} (hb : begE h next js = 0) (hk : 1 ≤ x.kind ∧ x.kind ≤ 5) : callT h next js room x = (callW h (wdN next js) room x, 0) := by
  unfold callT
  rw [if_pos (callE_ok hb hk)]
theorem hearT_ok {h : Hd} {next : Int} {js : List Jb} {m : Ms} (hb : begE h next js = 0) (hm : chkM h.S h.ls h.P m = 0) (h1 : m.to = h.me) (h2 : m.site = h.me) (h3 : 5 ≤ m.kind) : hearT h next js m = (hearW h (wdN next js) m (placeJ js m.n), 0) := by
  have he : hearE h next js m = 0 := by
    unfold hearE
    rw [if_neg (fun e => e hb), if_neg (fun e => e hm), if_neg (fun e => e.elim (fun e => e h1) (fun e => e h2)), if_neg (by omega)]
  unfold hearT
  rw [if_pos he]
end Go.Proofs.YtchbnpjegacobaaDoor
