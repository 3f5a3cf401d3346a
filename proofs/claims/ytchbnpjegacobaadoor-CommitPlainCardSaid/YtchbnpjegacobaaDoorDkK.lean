/-
  Desks of raw numbers: what they are, and that they may be. No conditions but those that each theorem names.
-/
import Derived.Test.YtchbnpjegacobaaDoorCoY
set_option linter.unusedVariables false
set_option linter.unusedSimpArgs false
namespace Go.Proofs.YtchbnpjegacobaaDoor
open Go Go.Vcg

noncomputable def backS (h : Hd) (r : Rw) (d : Int × List Jb) (e : List D) : Int × List Jb := if 0 < pk r.e 3 then backT h d (msgL e) r else d
def hearM (h : Hd) (r : Rw) : Ms := ⟨(mkMsg h.S h.ls.length r).kind, (mkMsg h.S h.ls.length r).frm, h.me, h.me, (mkMsg h.S h.ls.length r).n, (mkMsg h.S h.ls.length r).label, (mkMsg h.S h.ls.length r).key, (mkMsg h.S h.ls.length r).value, (mkMsg h.S h.ls.length r).version, (mkMsg h.S h.ls.length r).ask, (mkMsg h.S h.ls.length r).yes, (mkMsg h.S h.ls.length r).code⟩
noncomputable def deskC (h : Hd) (d : Int × List Jb) (r : Rw) (t : Wd × Int) : Int × List Jb := if t.2 = 0 then t.1.ms.foldl (backS h r) (t.1.next, t.1.js) else d
noncomputable def deskStep (h : Hd) (d : Int × List Jb) (r : Rw) : Int × List Jb :=
  if 0 < pk r.k 3 then deskC h d r (callT h d.1 d.2 6000 (askC ⟨r.c.tdiv 9, r.a, r.b, r.c, r.d, 0⟩))
  else keepD (hearT h d.1 d.2 (hearM h r)) d
noncomputable def deskT (h : Hd) (l : List Rw) : Int × List Jb := l.foldl (deskStep h) (1, [])
/-- A turn may be begun with such desks. -/
def okHd (h : Hd) : Prop := check h.S h.ls h.P = 0 ∧ (0 ≤ h.l ∧ h.l < h.ls.length) ∧ (0 ≤ h.me ∧ h.me < h.S)
noncomputable def sp_Desk : Sp := {
  pre := fun ds => ∃ (h : Hd) (l : List Rw) (k : Nat), ds = [cfgD h.S h.ls h.P, .int .i64 h.l, .int .i64 h.me, rawsD l, .int .i64 k] ∧ okHd h ∧ okRaws l ∧ k ≤ 100
  F := fun
    | [c, .int _ l, .int _ me, r, .int _ k] => dkD (deskT ⟨(cfgOf c).1, (cfgOf c).2.1, (cfgOf c).2.2, l, me⟩ ((rawsOf r).take k.toNat))
    | _ => .any }
theorem desk_F (h : Hd) (l : List Rw) (k : Nat) : sp_Desk.F [cfgD h.S h.ls h.P, .int .i64 h.l, .int .i64 h.me, rawsD l, .int .i64 k] = dkD (deskT h (l.take k)) := by
  have e : rawsOf (rawsD l) = l := by
    simp only [rawsOf, rawsD, List.map_map]
    have : (fun e => rawOf (D.agg e)) ∘ rawC = id := rfl
    rw [this, List.map_id]
  simp only [sp_Desk, cfgOf_cfgD, e, Int.toNat_natCast]
theorem desk_pre {h : Hd} {l : List Rw} {k : Nat} (hh : okHd h) (hl : okRaws l) (hk : k ≤ 100) : sp_Desk.pre [cfgD h.S h.ls h.P, .int .i64 h.l, .int .i64 h.me, rawsD l, .int .i64 k] = True := by
  simp only [sp_Desk, eq_iff_iff, iff_true]; exact ⟨h, l, k, rfl, hh, hl, hk⟩

def DkO (h : Hd) (d : Int × List Jb) : Prop := DkOk h.S h.ls.length d.1 d.2
theorem dkO_0 (h : Hd) : DkO h (1, []) := ⟨by simp only; omega, by simp only; omega, by simp, by simp, by simp⟩
theorem dkO_few {h : Hd} (hh : okHd h) {d : Int × List Jb} (hd : DkO h d) : fewD d := by
  obtain ⟨c1, c2, _⟩ := check_ok hh.1
  refine ⟨by have := hd.jl; omega, fun j hj => ?_⟩
  have h1 := hd.ok j hj
  have h2 := h1.tsS (by omega) c2
  exact ⟨by have := h1.tl; omega, by have := h2.2.1; omega⟩
theorem dkO_keepC {h : Hd} (hh : okHd h) {d : Int × List Jb} (hd : DkO h d) (room : Int) (x : Cl) : (callT h d.1 d.2 room x).2 = 0 → DkO h ((callT h d.1 d.2 room x).1.next, (callT h d.1 d.2 room x).1.js) := call_dk hh.1 hh.2.1 hd room x
theorem dkO_keepH {h : Hd} (hh : okHd h) {d : Int × List Jb} (hd : DkO h d) (m : Ms) : DkO h (keepD (hearT h d.1 d.2 m) d) := by
  unfold keepD
  split
  · rename_i e; exact hear_dk hh.1 hd m e
  · exact hd
theorem dkO_backS {h : Hd} (hh : okHd h) (r : Rw) {d : Int × List Jb} (hd : DkO h d) (e : List D) : DkO h (backS h r d e) := by
  unfold backS
  split
  · exact dkO_keepH hh hd _
  · exact hd
theorem dkO_fold {h : Hd} (hh : okHd h) (r : Rw) : ∀ (l : List (List D)) {d : Int × List Jb}, DkO h d → DkO h (l.foldl (backS h r) d)
  | [], _, hd => hd
  | e :: l, d, hd => by rw [List.foldl_cons]; exact dkO_fold hh r l (dkO_backS hh r hd e)
theorem dkO_step {h : Hd} (hh : okHd h) {d : Int × List Jb} (hd : DkO h d) (r : Rw) : DkO h (deskStep h d r) := by
  unfold deskStep
  split
  · unfold deskC
    split
    · rename_i e; exact dkO_fold hh r _ (dkO_keepC hh hd _ _ e)
    · exact hd
  · exact dkO_keepH hh hd _
theorem dkO_desk {h : Hd} (hh : okHd h) (l : List Rw) : DkO h (deskT h l) := by
  have : ∀ (l : List Rw) {d : Int × List Jb}, DkO h d → DkO h (l.foldl (deskStep h) d) := by
    intro l
    induction l with
    | nil => intro d hd; exact hd
    | cons r l ih => intro d hd; rw [List.foldl_cons]; exact ih (dkO_step hh hd r)
  exact this l (dkO_0 h)
/-- All that is sent are messages. -/
def okMs (l : List (List D)) : Prop := l.length ≤ 100 ∧ ∀ e ∈ l, isMsgL e = true
theorem okMs_nil : okMs [] := ⟨by simp, by simp⟩
theorem okMs_map {α : Type} {f : α → List D} {l : List α} (hl : l.length ≤ 100) (hf : ∀ x, isMsgL (f x) = true) : okMs (l.map f) :=
  ⟨by simpa using hl, fun e he => by obtain ⟨x, _, rfl⟩ := List.mem_map.1 he; exact hf x⟩
theorem call_ms {h : Hd} (hh : okHd h) {d : Int × List Jb} (hd : DkO h d) (room : Int) (x : Cl) : okMs (callT h d.1 d.2 room x).1.ms := by
  obtain ⟨c1, c2, _⟩ := check_ok hh.1
  unfold callT
  split
  · simp only
    unfold callW
    split
    · unfold begW; split <;> exact okMs_nil
    · split
      · rename_i hr
        obtain ⟨r1, r2⟩ := ref_ok hr
        have hpb := placeJ_b (wdN d.1 d.2).js x.n
        have hi : (placeJ (wdN d.1 d.2).js x.n).toNat < d.2.length := by simp only [wdN] at hpb r1 ⊢; omega
        generalize (placeJ (wdN d.1 d.2).js x.n).toNat = i at hi
        have hj := WOk.at' (w := wdN d.1 d.2) hd hi
        have hts := hj.tsS (by omega) c2
        have hcs := cmS_len h _ hts
        have htl := hj.tl
        unfold callP
        split
        · exact ⟨by simp [tskW, wdN], fun e he => by simp only [tskW, wdN, List.nil_append, List.mem_singleton] at he; subst he; rfl⟩
        · split
          · exact ⟨by simp [tskW, wdN], fun e he => by simp only [tskW, wdN, List.nil_append, List.mem_singleton] at he; subst he; rfl⟩
          · split
            · unfold cgW
              split
              · simp only [wdN, List.nil_append, agnM]
                refine okMs_map ?_ (fun _ => rfl)
                have := List.length_filter_le agnB (jAt d.2 i).tasks
                simp only [wdN] at htl
                omega
              · simp only [comW, wdN, List.nil_append, cmM]
                simp only [wdN] at hcs
                exact okMs_map (by omega) (fun _ => rfl)
            · simp only [endW, wdN, List.nil_append]
              simp only [wdN] at hcs
              exact okMs_map (by omega) (fun _ => rfl)
      · exact okMs_nil
  · exact okMs_nil

end Go.Proofs.YtchbnpjegacobaaDoor
