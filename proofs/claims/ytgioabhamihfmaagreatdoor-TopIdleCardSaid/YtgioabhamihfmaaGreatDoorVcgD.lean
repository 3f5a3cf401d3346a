/-
  Code of the model does on the world what the conditions on data say: FOK.of. For every program; no conditions but those that each theorem names.
-/
import Derived.Test.YtgioabhamihfmaaGreatDoorVcgE
import Derived.OpenShut
import Derived.Carry
import Derived.FnData
import Derived.MakeChecks
import Derived.Deep.Slices
import Derived.DataReads
set_option linter.unusedVariables false
set_option linter.unusedSimpArgs false
namespace Go.Vcg

/-! ### Looks, apartness -/
def Opd.slot : Opd → Option Nat
  | .t i => some i
  | _ => none
def IOper.looks (o : IOper) : List Nat := o.op.opds.filterMap Opd.slot ++ (o.guard.map (·.1)).toList

def Opd.ok : Opd → Bool
  | .c d => d.clos
  | _ => true
def IOper.ok (o : IOper) : Bool := o.op.opds.all Opd.ok

/-- The slot t is none of o's. -/
def IOper.free (o : IOper) (t : Option Nat) : Bool :=
  match t with
  | none => true
  | some t => !o.looks.contains t && o.dst != some t

def okCl (x o : Cl) : Bool :=
  match o, x with
  | .pure, .pure | .pure, .read | .pure, .new | .pure, .store => true
  | .read, .pure | .read, .read | .read, .new => true
  | .new, .pure | .new, .read | .new, .new => true
  | .store, .pure => true
  | _, _ => false

/-- May o, which stands behind x, go ahead of it? -/
def okP (x o : IOper) : Bool := okCl x.op.cl o.op.cl && o.free x.dst && x.free o.dst

theorem free_spec {o : IOper} {t : Nat} (h : o.free (some t) = true) : t ∉ o.looks ∧ o.dst ≠ some t := by
  simpa [IOper.free] using h

/-! ### States that are alike -/
def St.eqv (s t : St) : Prop := s.tm = t.tm ∧ s.lk = t.lk

theorem St.eqv.refl (s : St) : St.eqv s s := ⟨rfl, rfl⟩
theorem St.eqv.trans {a b c : St} (h : St.eqv a b) (g : St.eqv b c) : St.eqv a c := ⟨h.1.trans g.1, h.2.trans g.2⟩
theorem St.eqv.symm {a b : St} (h : St.eqv a b) : St.eqv b a := ⟨h.1.symm, h.2.symm⟩

section
variable {T : Tb} {s t s' : St} {o x : IOper}

theorem ev_tm (h : s.tm = t.tm) (y : Opd) : y.ev T s = y.ev T t := by
  cases y <;> simp only [Opd.ev, St.get, h]
theorem gd_tm (h : s.tm = t.tm) (g : Option (Nat × Bool)) : gd s g = gd t g := by
  cases g <;> simp only [gd, St.get, h]

theorem set_tm (s : St) (dst : Option Nat) (d : D) : (s.set dst d).tm = match dst with | some t => s.tm.set t d | none => s.tm := by
  cases dst <;> simp only [St.set, stO_eq]
theorem set_ob (s : St) (dst : Option Nat) (d : D) : (s.set dst d).ob = s.ob := by
  cases dst <;> rfl
theorem set_lk (s : St) (dst : Option Nat) (d : D) : (s.set dst d).lk = s.lk := by
  cases dst <;> rfl
theorem lk_obPut (tm : List D) (k : Nat) (ob : Ob) (l : List (Nat × Ob)) : (St.mk tm (obPut k ob l)).lk = fun j => if j = k then some ob else l.lookup j :=
  funext fun j => lk_put k ob l j

theorem applyE_eqv (h : St.eqv s t) {dst : Option Nat} {g : Option (Nat × Bool)} {G : Bool} {e : Eff} (ha : applyE s dst g G e = some s') : ∃ t', applyE t dst g G e = some t' ∧ St.eqv s' t' := by
  have hk : ∀ k, s.lk k = t.lk k := fun k => by rw [h.2]
  have hk' : ∀ k, List.lookup k s.ob = List.lookup k t.ob := hk
  cases e with
  | val d =>
    simp only [applyE, Option.some.injEq] at ha ⊢
    subst ha
    refine ⟨_, rfl, ?_, by rw [set_lk, set_lk, h.2]⟩
    rw [set_tm, set_tm, h.1]
  | new ob ptr =>
    simp only [applyE] at ha ⊢
    split at ha
    · rename_i k
      split at ha
      · cases ha
      · rename_i hn
        cases ha
        rw [if_neg (by rw [← hk]; exact hn)]
        refine ⟨_, rfl, by simp only [set_tm, h.1], ?_⟩
        simp only [set_lk, lk_obPut, hk']
    · cases ha
  | put k ob =>
    simp only [applyE] at ha ⊢
    split at ha
    · cases ha
      refine ⟨_, rfl, h.1, ?_⟩
      simp only [lk_obPut, hk']
    · cases ha
  | news ob d =>
    simp only [applyE] at ha ⊢
    split at ha
    · split at ha
      · rename_i hn
        cases ha
        rw [if_pos (by simpa only [freeOK, hk] using hn)]
        refine ⟨_, rfl, by simp only [set_tm, h.1], ?_⟩
        rw [set_lk, set_lk]
        funext j
        simp only [St.lk]
        rw [lk_putObs, lk_putObs, hk' j]
      · cases ha
    · cases ha
  | putv k ob d =>
    simp only [applyE] at ha ⊢
    split at ha
    · cases ha
      refine ⟨_, rfl, by simp only [set_tm, h.1], ?_⟩
      simp only [set_lk, lk_obPut, hk']
    · cases ha
  | mv2 k k2 ob =>
    simp only [applyE] at ha ⊢
    split at ha
    · rename_i j
      split at ha
      · cases ha
      · rename_i hn
        cases ha
        rw [if_neg (by rw [← hk]; exact hn)]
        refine ⟨_, rfl, by simp only [set_tm, h.1], ?_⟩
        rw [set_lk, set_lk]
        funext i
        simp only [St.lk]
        rw [lk_put, lk_put, lk_forget, lk_forget, lk_del, lk_del, lk_forget, lk_forget, lk_del, lk_del, hk' i]
    · cases ha
  | mv k ob =>
    simp only [applyE] at ha ⊢
    split at ha
    · rename_i j
      split at ha
      · cases ha
      · rename_i hn
        rw [if_neg (by rw [← hk]; exact hn)]
        cases k with
        | none =>
          cases ha
          refine ⟨_, rfl, by simp only [set_tm, h.1], ?_⟩
          simp only [set_lk, lk_obPut, hk']
        | some k =>
          cases ha
          refine ⟨_, rfl, by simp only [set_tm, h.1], ?_⟩
          simp only [set_lk, lk_obPut, lk_forget, lk_del, hk']
    · cases ha
  | frz ks d =>
    simp only [applyE] at ha ⊢
    split at ha
    · cases ha
      refine ⟨_, rfl, ?_, ?_⟩
      · simp only [set_tm, St.frz, h.1, h.2]
      · rw [set_lk, set_lk]
        funext j
        show (frzO s.lk ks s.ob).lookup j = (frzO t.lk ks t.ob).lookup j
        rw [lk_frzO, lk_frzO, hk' j, h.2]
    · split at ha
      · rename_i hks
        cases ha
        rw [if_pos hks]
        refine ⟨_, rfl, by simp only [set_tm, h.1], ?_⟩
        rw [set_lk, set_lk]
        exact h.2
      · cases ha
  | cal ks d ob =>
    simp only [applyE] at ha ⊢
    split at ha
    · split at ha
      · rename_i hn
        cases ha
        rw [if_pos (by simpa only [namesOK, hk] using hn)]
        refine ⟨_, rfl, ?_, ?_⟩
        · simp only [set_tm, h.1]
        · rw [set_lk, set_lk]
          funext j
          simp only [St.lk]
          rw [lk_putObs, lk_putObs, lk_dropObs, lk_dropObs, hk' j]
      · cases ha
    · cases ha

theorem istep_eqv (h : St.eqv s t) {φ : Prop} (hs : istep T s o = some (φ, s')) : ∃ t', istep T t o = some (φ, t') ∧ St.eqv s' t' := by
  rw [istep_eq] at hs ⊢
  rw [← gd_tm h.1, ← h.2]
  cases hG : gd s o.guard with
  | none => rw [hG] at hs; cases hs
  | some G =>
    rw [hG] at hs
    simp only at hs ⊢
    rw [opE_congr (ev := fun y => y.ev T t) (ev' := fun y => y.ev T s) fun y _ => (ev_tm h.1 y).symm]
    cases hE : opE T (fun y => y.ev T s) s.lk o.op with
    | none => rw [hE] at hs; cases hs
    | some p =>
      obtain ⟨ψ, e⟩ := p
      rw [hE] at hs
      simp only at hs ⊢
      cases hA : applyE s o.dst o.guard G e with
      | none => rw [hA] at hs; cases hs
      | some s1 =>
        rw [hA] at hs
        obtain ⟨t', h1, h2⟩ := applyE_eqv h hA
        rw [h1]
        simp only [Option.some.injEq, Prod.mk.injEq] at hs ⊢
        exact ⟨t', ⟨hs.1, rfl⟩, hs.2 ▸ h2⟩

def Closed (Q : St → Prop) : Prop := ∀ s t, St.eqv s t → Q s → Q t

theorem VCops_eqv {Q : St → Prop} (hQ : Closed Q) : ∀ {l : List IOper} {s t : St}, St.eqv s t → VCops T l Q s → VCops T l Q t
  | [], s, t, h, hv => hQ s t h hv
  | o :: r, s, t, h, hv => by
    simp only [VCops] at hv ⊢
    cases hs : istep T s o with
    | none => rw [hs] at hv; exact hv.elim
    | some p =>
      obtain ⟨φ, s'⟩ := p
      rw [hs] at hv
      obtain ⟨t', h1, h2⟩ := istep_eqv h hs
      rw [h1]
      exact ⟨hv.1, VCops_eqv hQ h2 hv.2⟩

theorem VCops_mono {Q Q' : St → Prop} (hQ : ∀ s, Q s → Q' s) : ∀ {l : List IOper} {s : St}, VCops T l Q s → VCops T l Q' s
  | [], s, hv => hQ s hv
  | o :: r, s, hv => by
    simp only [VCops] at hv ⊢
    cases hs : istep T s o with
    | none => rw [hs] at hv; exact hv.elim
    | some p =>
      obtain ⟨φ, s'⟩ := p
      rw [hs] at hv
      exact ⟨hv.1, VCops_mono hQ hv.2⟩
end

theorem Sat.eqv {T : Tb} {X : Nat → Prop} {Y : Env} {w0 w : World} {c : Cx} {s t : St} {a : Act} (h : Sat T X Y w0 c s a w) (e : St.eqv s t) : Sat T X Y w0 c t a w :=
  ⟨fun k => by rw [← e.2]; exact h.live k, by rw [← e.1]; exact h.tm, fun k o hk => h.ob k o (by rw [e.2]; exact hk), h.inj, h.fresh, h.ext, h.gl, h.Xb, h.rv1, h.dfs, h.base, h.owf, h.owi⟩
end Go.Vcg

namespace Go.Vcg
section
variable {T : Tb} {s t s1 s2 s' : St} {o x : IOper}

def EffOK (c : Cl) (e : Eff) : Prop :=
  match c with
  | .pure | .read => ∃ d, e = .val d
  | .new => (∃ o p, e = .new o p) ∨ (∃ o, e = .mv none o) ∨ ∃ ob d, e = .news ob d
  | .store => ∃ k o, e = .put k o
  | .mv => False

theorem effOK {lk : Nat → Option Ob} {ψ : Prop} {e : Eff} (hm : o.op.cl ≠ .mv) (h : opE T (fun y => y.ev T s) lk o.op = some (ψ, e)) : EffOK o.op.cl e := by
  unfold EffOK
  split
  · exact opE_val (.inl ‹_›) h
  · exact opE_val (.inr ‹_›) h
  · refine opE_new ‹_› h fun x hx => ?_
    cases x with
    | c d => cases d <;> simp [isNl] at hx; exact ⟨_, rfl⟩
    | _ => simp [isNl] at hx
  · exact opE_store ‹_› h
  · exact absurd ‹_› hm

theorem new_form {e : Eff} (h : EffOK .new e) : ∃ (obs : Nat → List (Nat × Ob)) (D : Nat → D), ∀ (s : St) dst g G s1, applyE s dst g G e = some s1 ↔ (g = none ∧ ∃ k, dst = some k ∧ (∀ p ∈ obs k, s.lk p.1 = none ∧ p.1 < baseN) ∧ s1 = ⟨s.tm.set k (D k), putObs (obs k) s.ob⟩) := by
  rcases h with ⟨ob, p, rfl⟩ | ⟨ob, rfl⟩ | ⟨ob, d, rfl⟩
  · refine ⟨fun k => [(k, ob)], fun k => if p then .own k 0 else .row k, fun s dst g G s1 => ?_⟩
    simp only [applyE]
    constructor
    · intro h
      split at h
      · split at h
        · cases h
        · rename_i hn
          cases h
          refine ⟨rfl, _, rfl, by simpa using hn, by simp only [St.set, stO_eq, putObs]⟩
      · cases h
    · rintro ⟨rfl, k, rfl, hk, rfl⟩
      obtain ⟨hk, hb⟩ := hk _ (List.mem_singleton.2 rfl)
      simp only [hk, Option.isSome_none, Bool.false_eq_true, false_or, Nat.not_le.2 hb, if_false, St.set, stO_eq, putObs]
      try rfl
  · refine ⟨fun k => [(k, ob)], fun k => .row k, fun s dst g G s1 => ?_⟩
    simp only [applyE]
    constructor
    · intro h
      split at h
      · split at h
        · cases h
        · rename_i hn
          cases h
          refine ⟨rfl, _, rfl, by simpa using hn, by simp only [St.set, stO_eq, putObs]⟩
      · cases h
    · rintro ⟨rfl, k, rfl, hk, rfl⟩
      obtain ⟨hk, hb⟩ := hk _ (List.mem_singleton.2 rfl)
      simp only [hk, Option.isSome_none, Bool.false_eq_true, false_and, false_or, Nat.not_le.2 hb, if_false, St.set, stO_eq, putObs]
      try rfl
  · refine ⟨fun k => outObs k [] ob, fun k => d.ren (outM k []), fun s dst g G s1 => ?_⟩
    simp only [applyE]
    constructor
    · intro h
      split at h
      · split at h
        · rename_i hn
          cases h
          refine ⟨rfl, _, rfl, ?_, by simp only [St.set, stO_eq]⟩
          unfold freeOK at hn
          rw [List.all_eq_true] at hn
          intro p hp
          simpa using hn p hp
        · cases h
      · cases h
    · rintro ⟨rfl, k, rfl, hk, rfl⟩
      have hn : freeOK s.lk (outObs k [] ob) = true := by
        unfold freeOK
        rw [List.all_eq_true]
        intro p hp
        simpa using hk p hp
      simp only [hn, if_true, St.set, stO_eq]

theorem lookup_mem {l : List (Nat × Ob)} {n : Nat} {o : Ob} (h : l.lookup n = some o) : (n, o) ∈ l := by
  induction l with
  | nil => simp [List.lookup] at h
  | cons q l ih =>
    obtain ⟨q1, q2⟩ := q
    by_cases hq : n = q1
    · subst hq; simp [List.lookup] at h; subst h; simp
    · have h1 : (n == q1) = false := by simpa using hq
      simp only [List.lookup, h1] at h
      exact List.mem_cons_of_mem _ (ih h)
theorem mem_lookup {l : List (Nat × Ob)} {p : Nat × Ob} (h : p ∈ l) : ∃ o, l.lookup p.1 = some o := by
  induction l with
  | nil => cases h
  | cons q l ih =>
    obtain ⟨q1, q2⟩ := q
    by_cases hq : p.1 = q1
    · exact ⟨q2, by simp [List.lookup, hq]⟩
    · have h1 : (p.1 == q1) = false := by simpa using hq
      simp only [List.lookup, h1]
      rcases List.mem_cons.1 h with h | h
      · subst h; exact absurd rfl hq
      · exact ih h
theorem lk_puts (tm : List D) (l0 l : List (Nat × Ob)) (n : Nat) : (St.mk tm (putObs l0 l)).lk n = match l0.lookup n with | some o => some o | none => l.lookup n := lk_putObs l0 l n

def setO : Option Nat → D → List D → List D
  | some t, d, tm => tm.set t d
  | none, _, tm => tm
theorem setO_comm {dx dst : Option Nat} (hd : ∀ k, dx = some k → dst ≠ some k) (tm : List D) (a b : D) : setO dst b (setO dx a tm) = setO dx a (setO dst b tm) := by
  cases dx with
  | none => cases dst <;> rfl
  | some k =>
    cases dst with
    | none => rfl
    | some j => exact List.set_comm _ _ fun e => hd k rfl (e ▸ rfl)
theorem val_form (s : St) (dst : Option Nat) (g : Option (Nat × Bool)) (G : Bool) (d : D) : applyE s dst g G (.val d) = some ⟨setO dst (wrapD g G d) s.tm, s.ob⟩ := by
  cases dst <;> simp only [applyE, St.set, stO_eq, setO]

theorem put_form {k : Nat} {ob : Ob} (s : St) (dst : Option Nat) (g : Option (Nat × Bool)) (G : Bool) (s1 : St) : applyE s dst g G (.put k ob) = some s1 ↔ (g = none ∧ dst = none ∧ s1 = ⟨s.tm, obPut k ob s.ob⟩) := by
  simp only [applyE]
  constructor
  · intro h
    split at h
    · cases h; exact ⟨rfl, rfl, rfl⟩
    · cases h
  · rintro ⟨rfl, rfl, rfl⟩; rfl

/-- Two effects, one behind the other, or the other way round. -/
theorem apply_comm {cx co : Cl} (hok : okCl cx co = true) {dx dst : Option Nat} {gx g : Option (Nat × Bool)} {Gx G : Bool} {ex e : Eff} (hx : EffOK cx ex) (he : EffOK co e) (hd : ∀ k, dx = some k → dst ≠ some k)
    (h1 : applyE s dx gx Gx ex = some s1) (h2 : applyE s1 dst g G e = some s2) :
    ∃ sE sE1, applyE s dst g G e = some sE ∧ applyE sE dx gx Gx ex = some sE1 ∧ St.eqv s2 sE1 := by
  have vv := setO_comm hd
  by_cases hv : (co = .pure ∨ co = .read)
  · obtain ⟨d, rfl⟩ : ∃ d, e = .val d := by rcases hv with rfl | rfl <;> exact he
    rw [val_form] at h2
    cases h2
    refine ⟨⟨setO dst (wrapD g G d) s.tm, s.ob⟩, ?_⟩
    by_cases hvx : (cx = .pure ∨ cx = .read)
    · obtain ⟨d', rfl⟩ : ∃ d, ex = .val d := by rcases hvx with rfl | rfl <;> exact hx
      rw [val_form] at h1
      cases h1
      exact ⟨_, val_form _ _ _ _ _, val_form _ _ _ _ _, vv _ _ _, rfl⟩
    · by_cases hn : cx = .new
      · subst hn
        obtain ⟨ob, D, hf⟩ := new_form hx
        obtain ⟨rfl, k, rfl, hk, rfl⟩ := (hf _ _ _ _ _).1 h1
        exact ⟨_, val_form _ _ _ _ _, (hf _ _ _ _ _).2 ⟨rfl, k, rfl, hk, rfl⟩, vv s.tm (D k) (wrapD g G d), rfl⟩
      · have hs : cx = .store := by
          cases cx <;> simp at hvx hn ⊢
          exact hx
        subst hs
        obtain ⟨k, ob, rfl⟩ := hx
        obtain ⟨rfl, rfl, rfl⟩ := (put_form _ _ _ _ _).1 h1
        exact ⟨_, val_form _ _ _ _ _, (put_form _ _ _ _ _).2 ⟨rfl, rfl, rfl⟩, rfl, rfl⟩
  · by_cases hn : co = .new
    · subst hn
      obtain ⟨ob, D, hf⟩ := new_form he
      obtain ⟨rfl, k, rfl, hk, rfl⟩ := (hf _ _ _ _ _).1 h2
      by_cases hvx : (cx = .pure ∨ cx = .read)
      · obtain ⟨d', rfl⟩ : ∃ d, ex = .val d := by rcases hvx with rfl | rfl <;> exact hx
        rw [val_form] at h1
        cases h1
        exact ⟨_, _, (hf _ _ _ _ _).2 ⟨rfl, k, rfl, hk, rfl⟩, val_form _ _ _ _ _, vv s.tm (wrapD gx Gx d') (D k), rfl⟩
      · have hnx : cx = .new := by cases cx <;> simp [okCl] at hvx hok ⊢
        subst hnx
        obtain ⟨obx, Dx, hfx⟩ := new_form hx
        obtain ⟨rfl, k', rfl, hk', rfl⟩ := (hfx _ _ _ _ _).1 h1
        have hne : k ≠ k' := fun e => hd k' rfl (by rw [e])
        have hdis : ∀ n o1 o2, (ob k).lookup n = some o1 → (obx k').lookup n = some o2 → False := by
          intro n o1 o2 h1 h2
          have := (hk _ (lookup_mem h1)).1
          rw [lk_puts] at this
          simp only [h2] at this
          cases this
        refine ⟨_, _, (hf _ _ _ _ _).2 ⟨rfl, k, rfl, fun p hp => ⟨?_, (hk p hp).2⟩, rfl⟩, (hfx _ _ _ _ _).2 ⟨rfl, k', rfl, fun p hp => ⟨?_, (hk' p hp).2⟩, rfl⟩, ?_, ?_⟩
        · have := (hk p hp).1
          rw [lk_puts] at this
          split at this
          · cases this
          · exact this
        · rw [lk_puts]
          split
          · rename_i o1 h1
            obtain ⟨o2, h2⟩ := mem_lookup hp
            exact (hdis _ _ _ h1 h2).elim
          · exact (hk' p hp).1
        · exact List.set_comm _ _ (Ne.symm hne)
        · funext j
          rw [lk_puts, lk_puts, lk_putObs, lk_putObs]
          cases h1 : (ob k).lookup j with
          | none => cases (obx k').lookup j <;> rfl
          | some o1 =>
            cases h2 : (obx k').lookup j with
            | none => rfl
            | some o2 => exact (hdis _ _ _ h1 h2).elim
    · have hs : co = .store := by
        cases co <;> simp at hv hn ⊢
        exact he
      subst hs
      have hpx : cx = .pure := by cases cx <;> simp [okCl] at hok ⊢
      subst hpx
      obtain ⟨k, ob, rfl⟩ := he
      obtain ⟨d', rfl⟩ := hx
      obtain ⟨rfl, rfl, rfl⟩ := (put_form _ _ _ _ _).1 h2
      rw [val_form] at h1
      cases h1
      exact ⟨_, _, (put_form _ _ _ _ _).2 ⟨rfl, rfl, rfl⟩, val_form _ _ _ _ _, rfl, rfl⟩

/-- What another's effect leaves. -/
theorem apply_get {c : Cl} {dst : Option Nat} {g : Option (Nat × Bool)} {G : Bool} {e : Eff} (he : EffOK c e) (h : applyE s dst g G e = some s1) (t : Nat) (ht : dst ≠ some t) : s1.get t = s.get t := by
  have hset : ∀ k d ob, dst = some k → (St.mk (s.tm.set k d) ob).get t = s.get t := by
    intro k d ob hk
    have : k ≠ t := fun e => ht (hk.trans (by rw [e]))
    simp [St.get, gtO_eq, List.getElem?_set_ne this]
  cases c with
  | mv => exact he.elim
  | pure | read =>
    obtain ⟨d, rfl⟩ := he
    rw [val_form] at h
    cases h
    cases dst with
    | none => rfl
    | some k => exact hset k _ _ rfl
  | new =>
    obtain ⟨ob, D, hf⟩ := new_form he
    obtain ⟨_, k, rfl, _, rfl⟩ := (hf _ _ _ _ _).1 h
    exact hset k _ _ rfl
  | store =>
    obtain ⟨k, ob, rfl⟩ := he
    obtain ⟨_, _, rfl⟩ := (put_form _ _ _ _ _).1 h
    rfl

theorem apply_lk {c : Cl} {dst : Option Nat} {g : Option (Nat × Bool)} {G : Bool} {e : Eff} (hc : c = .pure ∨ c = .read ∨ c = .new) (he : EffOK c e) (h : applyE s dst g G e = some s1) : lkLe s.lk s1.lk := by
  rcases hc with rfl | rfl | rfl
  · obtain ⟨d, rfl⟩ := he
    rw [val_form] at h
    cases h
    exact lkLe.refl _
  · obtain ⟨d, rfl⟩ := he
    rw [val_form] at h
    cases h
    exact lkLe.refl _
  · obtain ⟨ob, D, hf⟩ := new_form he
    obtain ⟨_, k, rfl, hk, rfl⟩ := (hf _ _ _ _ _).1 h
    intro j p hj
    rw [lk_puts]
    split
    · rename_i o1 h1
      have := (hk _ (lookup_mem h1)).1
      simp only at this
      rw [hj] at this
      cases this
    · exact hj

theorem looks_opd {t : Nat} (h : Opd.t t ∈ o.op.opds) : t ∈ o.looks := by
  unfold IOper.looks
  exact List.mem_append_left _ (List.mem_filterMap.2 ⟨.t t, h, rfl⟩)
theorem looks_guard {t : Nat} {b : Bool} (h : o.guard = some (t, b)) : t ∈ o.looks := by
  unfold IOper.looks
  exact List.mem_append_right _ (by simp [h])

theorem ev_same {t : St} (hget : ∀ i ∈ o.looks, t.get i = s.get i) : ∀ y ∈ o.op.opds, y.ev T t = y.ev T s := by
  intro y hy
  cases y with
  | t i => exact hget i (looks_opd hy)
  | _ => rfl
theorem gd_same {t : St} (hget : ∀ i ∈ o.looks, t.get i = s.get i) : gd t o.guard = gd s o.guard := by
  cases hg : o.guard with
  | none => rfl
  | some p =>
    obtain ⟨i, b⟩ := p
    simp only [gd]
    rw [hget i (looks_guard hg)]

theorem istep_inv {φ : Prop} (h : istep T s o = some (φ, s1)) : ∃ G ψ e, φ = (G = true → ψ) ∧ gd s o.guard = some G ∧ opE T (fun y => y.ev T s) s.lk o.op = some (ψ, e) ∧ applyE s o.dst o.guard G e = some s1 := by
  rw [istep_eq] at h
  cases hG : gd s o.guard with
  | none => rw [hG] at h; cases h
  | some G =>
    rw [hG] at h
    simp only at h
    cases hE : opE T (fun y => y.ev T s) s.lk o.op with
    | none => rw [hE] at h; cases h
    | some p =>
      obtain ⟨ψ, e⟩ := p
      rw [hE] at h
      simp only at h
      cases hA : applyE s o.dst o.guard G e with
      | none => rw [hA] at h; cases h
      | some s2 =>
        rw [hA] at h
        simp only [Option.some.injEq, Prod.mk.injEq] at h
        obtain ⟨rfl, rfl⟩ := h
        exact ⟨G, ψ, e, rfl, rfl, rfl, hA⟩

theorem istep_mk {G : Bool} {ψ : Prop} {e : Eff} (hG : gd s o.guard = some G) (hE : opE T (fun y => y.ev T s) s.lk o.op = some (ψ, e)) (hA : applyE s o.dst o.guard G e = some s1) : istep T s o = some ((G = true → ψ), s1) := by
  rw [istep_eq, hG]
  simp only [hE, hA]

/-- o goes ahead of x. -/
theorem diamond {φ : Prop} (hx : istep T s x = some (φ, s1)) (hp : okP x o = true) {G : Bool} {e : Eff} (he : EffOK o.op.cl e) (ha : applyE s1 o.dst o.guard G e = some s2) :
    ∃ sE, applyE s o.dst o.guard G e = some sE ∧ ∃ sE1, istep T sE x = some (φ, sE1) ∧ St.eqv s2 sE1 := by
  unfold okP at hp
  simp only [Bool.and_eq_true] at hp
  obtain ⟨⟨h1, h2⟩, h3⟩ := hp
  obtain ⟨Gx, ψ, ex, rfl, hG, hE, hA⟩ := istep_inv hx
  have hmx : x.op.cl ≠ .mv := by intro h; rw [h] at h1; cases ho : o.op.cl <;> rw [ho] at h1 <;> cases h1
  have hex := effOK hmx hE
  obtain ⟨sE, sE1, a1, a2, a3⟩ := apply_comm h1 hex he (fun k hk => by rw [hk] at h2; exact (free_spec h2).2) hA ha
  refine ⟨sE, a1, sE1, ?_, a3⟩
  have hget : ∀ i ∈ x.looks, sE.get i = s.get i := fun i hi => apply_get he a1 i fun hd => by rw [hd] at h3; exact (free_spec h3).1 hi
  refine istep_mk ((gd_same hget).trans hG) ?_ a2
  rw [opE_congr (ev_same (T := T) hget)]
  by_cases hs : o.op.cl = .store
  · have hpx : x.op.cl = .pure := by rw [hs] at h1; cases hc : x.op.cl <;> rw [hc] at h1 <;> first | rfl | cases h1
    rw [opE_pure hpx (lk' := s.lk)]; exact hE
  · have hmo : o.op.cl = .pure ∨ o.op.cl = .read ∨ o.op.cl = .new := by
      cases hc : o.op.cl <;> rw [hc] at h1 hs <;> first | (exact absurd rfl hs) | (cases h1; done) | simp
    by_cases hpx : x.op.cl = .pure
    · rw [opE_pure hpx (lk' := s.lk)]; exact hE
    · by_cases hsx : x.op.cl = .store
      · have hpo : o.op.cl = .pure := by rw [hsx] at h1; cases hc : o.op.cl <;> rw [hc] at h1 <;> first | rfl | cases h1
        rw [hpo] at he
        obtain ⟨d, rfl⟩ := he
        rw [val_form] at a1
        cases a1
        exact hE
      · exact opE_mono (apply_lk hmo he a1) hsx hmx hE

/-- How the objects may stand that o is reckoned with. -/
def lkRel (c : Cl) (lk lk' : Nat → Option Ob) : Prop :=
  match c with
  | .pure => True
  | .read | .new => lkLe lk lk'
  | .store | .mv => lk' = lk

theorem lkRel.refl (c : Cl) (lk : Nat → Option Ob) : lkRel c lk lk := by cases c <;> simp [lkRel, lkLe.refl]

/-- o, behind R, is reckoned ahead of it. -/
theorem pull {Q : St → Prop} (hQ : Closed Q) {L : List IOper} : ∀ {R : List IOper} {s : St}, (∀ x ∈ R, okP x o = true) → VCops T (R ++ o :: L) Q s →
    ∃ G ψ e lk' sE, gd s o.guard = some G ∧ opE T (fun y => y.ev T s) lk' o.op = some (ψ, e) ∧ lkRel o.op.cl s.lk lk' ∧ (G = true → ψ) ∧ applyE s o.dst o.guard G e = some sE ∧ VCops T (R ++ L) Q sE
  | [], s, _, h => by
    simp only [List.nil_append, VCops] at h
    cases hs : istep T s o with
    | none => rw [hs] at h; exact h.elim
    | some p =>
      obtain ⟨φ, s1⟩ := p
      rw [hs] at h
      obtain ⟨G, ψ, e, rfl, h1, h2, h3⟩ := istep_inv hs
      exact ⟨G, ψ, e, s.lk, s1, h1, h2, lkRel.refl _ _, h.1, h3, h.2⟩
  | x :: R, s, hp, h => by
    simp only [List.cons_append, VCops] at h
    cases hs : istep T s x with
    | none => rw [hs] at h; exact h.elim
    | some p =>
      obtain ⟨φ, s1⟩ := p
      rw [hs] at h
      simp only at h
      have hpx := hp x (by simp)
      obtain ⟨G, ψ, e, lk', sE1, h1, h2, h3, h4, h5, h6⟩ := pull hQ (R := R) (fun y hy => hp y (by simp [hy])) h.2
      have hp' := hpx
      unfold okP at hp'
      simp only [Bool.and_eq_true] at hp'
      obtain ⟨⟨q1, q2⟩, q3⟩ := hp'
      have hmo : o.op.cl ≠ .mv := by intro h; rw [h] at q1; cases hc : x.op.cl <;> rw [hc] at q1 <;> cases q1
      have hmx : x.op.cl ≠ .mv := by intro h; rw [h] at q1; cases hc : o.op.cl <;> rw [hc] at q1 <;> cases q1
      have he := effOK hmo h2
      obtain ⟨Gx, ψx, ex, rfl, gx1, gx2, gx3⟩ := istep_inv hs
      have hex := effOK hmx gx2
      have hget : ∀ i ∈ o.looks, s1.get i = s.get i := fun i hi => apply_get hex gx3 i fun hd => by rw [hd] at q2; exact (free_spec q2).1 hi
      obtain ⟨sE, a1, sE1', a2, a3⟩ := diamond hs hpx he h5
      refine ⟨G, ψ, e, lk', sE, (gd_same hget).symm.trans h1, by rw [← opE_congr (ev_same (T := T) hget)]; exact h2, ?_, h4, a1, ?_⟩
      · cases hc : o.op.cl <;> rw [hc] at h3 q1 <;> simp only [lkRel] at h3 ⊢
        · have : x.op.cl = .pure ∨ x.op.cl = .read ∨ x.op.cl = .new := by cases hcx : x.op.cl <;> rw [hcx] at q1 <;> first | (cases q1; done) | simp
          exact (apply_lk this hex gx3).trans h3
        · have : x.op.cl = .pure ∨ x.op.cl = .read ∨ x.op.cl = .new := by cases hcx : x.op.cl <;> rw [hcx] at q1 <;> first | (cases q1; done) | simp
          exact (apply_lk this hex gx3).trans h3
        · have hpx' : x.op.cl = .pure := by cases hcx : x.op.cl <;> rw [hcx] at q1 <;> first | rfl | cases q1
          rw [hpx'] at hex
          obtain ⟨d, rfl⟩ := hex
          rw [val_form] at gx3
          cases gx3
          exact h3
        · exact absurd hc hmo
      · simp only [List.cons_append, VCops, a2]
        exact ⟨h.1, VCops_eqv hQ a3 h6⟩
end
end Go.Vcg

namespace Go.Vcg
section
variable {P : Program} {kf : Nat → Nat} {T : Tb} {X : Nat → Prop} {Y : Env} {w0 w : World} {c : Cx} {s s1 s2 : St} {a : Act} {o : IOper}

mutual
theorem Sat.lv (h : Sat T X Y w0 c s a w) {Z : Nat → Prop} : ∀ (d : D) {v : Value}, Rd Z w (some c) d v → d.lv s.lk = true
  | .int _ _, _, _ | .bool _, _, _ | .str _, _, _ | .nilp, _, _ | .nl _, _, _ | .fz _ _, _, _ | .ad _ _ _ _, _, _ | .any, _, _ | .wh _ _, _, _ | .ub, _, _ | .err _, _, _ | .xad _, _, _ => by simp only [D.lv]
  | .row k, _, hr | .own k _, _, hr | .elr k _ _ _, _, hr | .vw k _ _ _ _, _, hr => by
    simp only [Rd] at hr
    simp only [D.lv]
    rw [← h.live k]; exact hr.1
  | .agg cs, _, hr => by
    simp only [Rd] at hr
    obtain ⟨vs, _, h2⟩ := hr
    simp only [D.lv]
    exact Sat.lvs h cs h2
  | .tup cs, _, hr => by
    simp only [Rd] at hr
    obtain ⟨vs, _, h2⟩ := hr
    simp only [D.lv]
    exact Sat.lvs h cs h2
  | .clo f cs, _, hr => by
    simp only [Rd] at hr
    obtain ⟨vs, _, h2⟩ := hr
    simp only [D.lv]
    exact Sat.lvs h cs h2
theorem Sat.lvs (h : Sat T X Y w0 c s a w) {Z : Nat → Prop} : ∀ (ds : List D) {vs : List Value}, RdL Z w (some c) ds vs → lvL s.lk ds = true
  | [], _, _ => by simp only [lvL]
  | d :: ds, _, hr => by
    simp only [RdL] at hr
    obtain ⟨v, r, _, h2, h3⟩ := hr
    simp only [lvL, Bool.and_eq_true]
    exact ⟨Sat.lv h d h2, Sat.lvs h ds h3⟩
end
mutual
theorem clos_lv {lk : Nat → Option Ob} : ∀ (d : D), d.clos = true → d.lv lk = true
  | .int _ _, _ | .bool _, _ | .str _, _ | .nilp, _ | .nl _, _ | .fz _ _, _ | .ad _ _ _ _, _ | .any, _ | .wh _ _, _ | .ub, _ | .err _, _ | .xad _, _ => by simp only [D.lv]
  | .row k, h | .own k _, h | .elr k _ _ _, h | .vw k _ _ _ _, h => by simp [D.clos] at h
  | .agg cs, h => by simp only [D.clos] at h; simp only [D.lv]; exact closL_lv cs h
  | .tup cs, h => by simp only [D.clos] at h; simp only [D.lv]; exact closL_lv cs h
  | .clo f cs, h => by simp only [D.clos] at h; simp only [D.lv]; exact closL_lv cs h
theorem closL_lv {lk : Nat → Option Ob} : ∀ (ds : List D), closL ds = true → lvL lk ds = true
  | [], _ => by simp only [lvL]
  | d :: ds, h => by
    simp only [closL, Bool.and_eq_true] at h
    simp only [lvL, Bool.and_eq_true]
    exact ⟨clos_lv d h.1, closL_lv ds h.2⟩
end

theorem Sat.opd_lv (h : Sat T X Y w0 c s a w) {y : Opd} (hok : y.ok = true) (hg : (y.ev T s).gu = true) : (y.ev T s).un.lv s.lk = true := by
  cases y with
  | t i => exact h.lv _ ((h.getT i).un hg)
  | g i => exact h.lv _ ((h.gl i).closed.un hg)
  | c d =>
    simp only [Opd.ok] at hok
    simp only [Opd.ev]
    have : d.un = d := by cases d <;> first | rfl | simp [D.clos] at hok
    rw [this]
    exact clos_lv d hok

theorem opE_gus {ev : Opd → D} {lk : Nat → Option Ob} {op : IOp} {ψ : Prop} {e : Eff} (hc : op.cl ≠ .pure) (h : opE T ev lk op = some (ψ, e)) (hψ : ψ) : gusE ev op.opds := by
  cases op
  case pick a b c => exact absurd rfl hc
  case call f as =>
    simp only [opE] at h
    split at h
    · split at h
      · cases h; exact hψ.2.1
      · cases h
    · cases h
  case calln f as =>
    simp only [opE] at h
    split at h
    · split at h
      · split at h
        · cases h; exact hψ.1
        · cases h
      · cases h
    · cases h
  all_goals
    simp only [opE] at h
    split at h
    · cases h
    · cases h; exact hψ.1

/-- An operation that is reckoned ahead of others is carried out ahead of them. -/
theorem front (hT : TbOK P kf T) (h : Sat T X Y w0 c s a w) {ops : Array Oper} {oo : Oper} (hc : cOper P kf ops oo = some o) (hok : o.ok = true) {G : Bool} {ψ : Prop} {e : Eff} {lk' : Nat → Option Ob} {sE : St}
    (hG : gd s o.guard = some G) (hE : opE T (fun y => y.ev T s) lk' o.op = some (ψ, e)) (hrel : lkRel o.op.cl s.lk lk') (hψ : G = true → ψ) (hA : applyE s o.dst o.guard G e = some sE)
    {K : Act → World → Prop} {Q : Exit → Act → World → Prop} (hK : ∀ c' a' w', Sat T X Y w0 c' sE a' w' → K a' w') :
    if Region.wanted oo (yielded ops a.tmps) = true then oo.wp P a w K Q else K (a.put oo.dst undef) w := by
  cases hGv : G with
  | true =>
    rw [hGv] at hG hA
    have hp := hψ hGv
    have hE' : opE T (fun y => y.ev T s) s.lk o.op = some (ψ, e) := by
      by_cases hpu : o.op.cl = .pure
      · rw [opE_pure hpu (lk' := lk')]; exact hE
      · have hg := opE_gus hpu hE hp
        have hlv : ∀ x ∈ o.op.opds, ((fun y => Opd.ev T s y) x).un.lv s.lk = true := fun x hx => h.opd_lv (by simp only [IOper.ok, List.all_eq_true] at hok; exact hok x hx) (gusE_mem hg x hx)
        cases hcl : o.op.cl <;> rw [hcl] at hrel <;> simp only [lkRel] at hrel
        · exact absurd hcl hpu
        · rw [← opE_lv hrel (by rw [hcl]; simp) (by rw [hcl]; simp) hlv]; exact hE
        · rw [← opE_lv hrel (by rw [hcl]; simp) (by rw [hcl]; simp) hlv]; exact hE
        · rw [hrel] at hE; exact hE
        · rw [hrel] at hE; exact hE
    exact step_sound hT h hc (istep_mk hG hE' hA) (fun _ => hp) hK
  | false =>
    rw [hGv] at hG hA
    obtain ⟨hdst, hguard, hop⟩ := cOper_spec hc
    have hw := h.guard hguard hG
    rw [hw]
    simp only [Bool.false_eq_true, if_false]
    cases hg : o.guard with
    | none => rw [hg] at hG; simp [gd] at hG
    | some jw =>
      rw [hg] at hA
      cases e with
      | val d =>
        rw [← applyE_val hA |>.symm] at hK
        rw [hdst] at hK
        exact hK c _ _ (h.put oo.dst wrap_undef)
      | new ob p => simp [applyE] at hA
      | put k ob => simp [applyE] at hA
      | mv k ob => simp [applyE] at hA
      | mv2 k k2 ob => simp [applyE] at hA
      | frz ks d =>
        simp only [applyE] at hA
        split at hA
        · cases hA
          rw [hdst] at hK
          exact hK c _ _ (h.put oo.dst wrap_undef)
        · cases hA
      | cal ks d ob => simp [applyE] at hA
      | putv k ob d => simp [applyE] at hA
      | news ob d => simp [applyE] at hA

/-! ### A region in whatever order -/
def okPi (il : List IOper) (x y : Nat) : Prop := ∀ p q, il[x]? = some p → il[y]? = some q → okP p q = true

theorem idxOf_lt_mem {l : List Nat} {x y : Nat} (h : l.idxOf x < l.idxOf y) : x ∈ l :=
  List.idxOf_lt_length_iff.1 (Nat.lt_of_lt_of_le h List.idxOf_le_length)

theorem idxOf_cons_ne {i x : Nat} {R : List Nat} (h : x ≠ i) : List.idxOf x (i :: R) = List.idxOf x R + 1 := by
  rw [List.idxOf_cons]
  have : (i == x) = false := by simpa using Ne.symm h
  rw [this]; rfl

theorem ops_any (hT : TbOK P kf T) {ops : Array Oper} {il : List IOper} (hil : ∀ (i : Nat) (oo : Oper), ops[i]? = some oo → ∃ o, il[i]? = some o ∧ cOper P kf ops oo = some o) (hok : ∀ o ∈ il, o.ok = true)
    {Qs : St → Prop} (hcl : Closed Qs) {Q : Exit → Act → World → Prop} (hQ : ∀ s c a w, Qs s → Sat T X Y w0 c s a w → Q .normal a w) :
    ∀ (π r : List Nat), π.Nodup → r.Nodup → (∀ i, i ∈ r ↔ i ∈ π) → (∀ i ∈ π, i < ops.size) → (∀ x y, r.idxOf x < r.idxOf y → π.idxOf y < π.idxOf x → okPi il x y) →
    ∀ {s : St} {c : Cx} {a : Act} {w : World}, Sat T X Y w0 c s a w → VCops T (r.filterMap fun i => il[i]?) Qs s → wpOps P ops Q π a w
  | [], r, _, _, hm, _, _, s, c, a, w, h, hv => by
    have : r = [] := by
      cases r with
      | nil => rfl
      | cons i r => exact absurd ((hm i).1 (by simp)) (by simp)
    subst this
    exact hQ s c a w hv h
  | i :: π, r, hn, hr, hm, hlt, hH, s, c, a, w, h, hv => by
    obtain ⟨hi, hn'⟩ := List.nodup_cons.1 hn
    obtain ⟨R1, R2, rfl⟩ := List.append_of_mem ((hm i).2 (by simp))
    have hsz := hlt i (by simp)
    obtain ⟨o, ho, hco⟩ := hil i ops[i] (by simp [hsz])
    have hr' := hr
    rw [List.nodup_append] at hr
    obtain ⟨hr1, hr2, hr3⟩ := hr
    obtain ⟨hi2, hr2⟩ := List.nodup_cons.1 hr2
    have hi1 : i ∉ R1 := fun hx => hr3 i hx i (by simp) rfl
    have hidx : ∀ x, x ≠ i → (R1 ++ i :: R2).idxOf x = if x ∈ R1 then R1.idxOf x else R2.idxOf x + 1 + R1.length := by
      intro x hx
      rw [List.idxOf_append]
      rw [idxOf_cons_ne hx]
    have hidxi : (R1 ++ i :: R2).idxOf i = R1.length := by rw [List.idxOf_append, if_neg hi1, List.idxOf_cons_self, Nat.zero_add]
    have hpi : ∀ x, x ≠ i → (i :: π).idxOf x = π.idxOf x + 1 := by
      intro x hx
      exact idxOf_cons_ne hx
    rw [List.filterMap_append, List.filterMap_cons, ho] at hv
    obtain ⟨G, ψ, e, lk', sE, h1, h2, h3, h4, h5, h6⟩ := pull hcl (R := R1.filterMap fun i => il[i]?) (L := R2.filterMap fun i => il[i]?) (fun x hx => by
      obtain ⟨j, hj, hjx⟩ := List.mem_filterMap.1 hx
      have hji : j ≠ i := fun e => hi1 (e ▸ hj)
      refine hH j i ?_ ?_ x o hjx ho
      · rw [hidx j hji, if_pos hj, hidxi]; exact List.idxOf_lt_length_iff.2 hj
      · rw [hpi j hji]; simp) hv
    rw [wpOps_cons]
    unfold wpOp
    have hoo : ops[i]? = some ops[i] := by simp [hsz]
    simp only [hoo]
    have := front (P := P) hT h hco (hok o (List.mem_of_getElem? ho)) h1 h2 h3 h4 h5 (K := wpOps P ops Q π) (Q := Q) fun c' a' w' hS => ?_
    · split
      · rename_i hw; rw [if_pos hw] at this; exact .inl this
      · rename_i hw; rw [if_neg hw] at this; exact this
    · refine ops_any hT hil hok hcl hQ π (R1 ++ R2) hn' (List.nodup_append.2 ⟨hr1, hr2, fun x hx y hy => hr3 x hx y (by simp [hy])⟩) (fun x => ?_) (fun x hx => hlt x (by simp [hx])) (fun x y hxy hyx => ?_) hS (by rw [List.filterMap_append]; exact h6)
      · have := hm x
        simp only [List.mem_append, List.mem_cons] at this ⊢
        by_cases hx : x = i
        · subst hx; simp [hi, hi1, hi2]
        · simpa [hx] using this
      · have hxm := idxOf_lt_mem hxy
        have hym := idxOf_lt_mem hyx
        have hxi : x ≠ i := fun e => by
          subst e
          rcases List.mem_append.1 hxm with hx | hx
          · exact hi1 hx
          · exact hi2 hx
        have hyi : y ≠ i := fun e => hi (e ▸ hym)
        refine hH x y ?_ ?_
        · rw [hidx x hxi, hidx y hyi]
          rw [List.idxOf_append, List.idxOf_append] at hxy
          have l1 : List.idxOf x R1 ≤ R1.length := List.idxOf_le_length
          have l2 : List.idxOf y R1 ≤ R1.length := List.idxOf_le_length
          by_cases q1 : x ∈ R1 <;> by_cases q2 : y ∈ R1 <;> simp only [q1, q2, if_true, if_false] at hxy ⊢ <;> omega
        · rw [hpi x hxi, hpi y hyi]; omega
end
end Go.Vcg

namespace Go.Vcg

/-! ### The orders that a region may be drawn in -/
section
variable {md : Region.Mode} {ops : Array Oper}

def unl (ops : Array Oper) (listed : Array Bool) : Nat := ((List.range ops.size).filter fun i => !listed.getD i true).length

theorem filter_lt {p q : Nat → Bool} (hpq : ∀ i, q i = true → p i = true) {i : Nat} (hp : p i = true) (hq : q i = false) : ∀ {l : List Nat}, i ∈ l → (l.filter q).length < (l.filter p).length
  | [], h => by simp at h
  | j :: l, h => by
    have hle : ∀ l : List Nat, (l.filter q).length ≤ (l.filter p).length := by
      intro l
      induction l with
      | nil => simp
      | cons k l ih =>
        simp only [List.filter_cons]
        cases hk : q k
        · cases p k <;> simp <;> omega
        · rw [hpq k hk]; simp; omega
    simp only [List.filter_cons]
    by_cases hj : j = i
    · subst hj
      rw [hp, hq]
      have := hle l
      simp; omega
    · have hi : i ∈ l := by simpa [Ne.symm hj] using h
      have := filter_lt hpq hp hq hi
      cases hk : q j
      · cases p j <;> simp <;> omega
      · rw [hpq j hk]; simp; omega

def Fwd (md : Region.Mode) (ops : Array Oper) : Prop := ∀ (i : Nat) (o : Oper), ops[i]? = some o → ∀ e ∈ o.after, Region.binds md e = true → e.on < i

theorem ready_some (hf : Fwd md ops) {listed : Array Bool} (hs : listed.size = ops.size) {i : Nat} (hi : i < ops.size) (hl : listed.getD i true = false) : Region.ready md ops listed ≠ [] := by
  induction i using Nat.strongRecOn with
  | _ i ih =>
    by_cases hx : ∃ j, j < i ∧ listed.getD j true = false
    · obtain ⟨j, hj, hjl⟩ := hx
      exact ih j hj (by omega) hjl
    · have : i ∈ Region.ready md ops listed := by
        rw [mem_ready]
        refine ⟨hl, ops[i], by simp [hi], fun e he hb => ?_⟩
        have hlt := hf i ops[i] (by simp [hi]) e he hb
        have hen : ¬ listed.getD e.on true = false := fun h => hx ⟨_, hlt, h⟩
        have hsz : e.on < listed.size := by omega
        simp [hsz] at hen ⊢
        exact hen
      intro h
      rw [h] at this
      cases this

theorem lin_spec (hf : Fwd md ops) : ∀ (fuel t : Nat) (listed : Array Bool), listed.size = ops.size → unl ops listed ≤ fuel →
    (Region.linearise.go md ops fuel t listed []).Nodup ∧ (∀ i, i ∈ Region.linearise.go md ops fuel t listed [] ↔ i < ops.size ∧ listed.getD i true = false) ∧
    (∀ i ∈ Region.linearise.go md ops fuel t listed [], ∀ o, ops[i]? = some o → ∀ e ∈ o.after, Region.binds md e = true → listed.getD e.on false = true ∨ (Region.linearise.go md ops fuel t listed []).idxOf e.on < (Region.linearise.go md ops fuel t listed []).idxOf i)
  | 0, t, listed, hs, hu => by
    have hno : ∀ i, i < ops.size → listed.getD i true = true := by
      intro i hi
      have h0 : (List.range ops.size).filter (fun i => !listed.getD i true) = [] := List.eq_nil_of_length_eq_zero (by unfold unl at hu; omega)
      have := List.filter_eq_nil_iff.1 h0 i (List.mem_range.2 hi)
      simpa using this
    simp only [Region.linearise.go]
    refine ⟨by simp, fun i => ?_, by simp⟩
    constructor
    · intro h; simp at h
    · rintro ⟨h1, h2⟩
      rw [hno i h1] at h2; cases h2
  | fuel + 1, t, listed, hs, hu => by
    simp only [Region.linearise.go]
    change (match (Region.ready md ops listed)[t % (Region.ready md ops listed).length]? with
      | some i => Region.linearise.go md ops fuel (t / (Region.ready md ops listed).length) (listed.setIfInBounds i true) [i]
      | none => [].reverse).Nodup ∧ (∀ i, i ∈ (match (Region.ready md ops listed)[t % (Region.ready md ops listed).length]? with
      | some i => Region.linearise.go md ops fuel (t / (Region.ready md ops listed).length) (listed.setIfInBounds i true) [i]
      | none => [].reverse) ↔ _) ∧ (∀ i ∈ (match (Region.ready md ops listed)[t % (Region.ready md ops listed).length]? with
      | some i => Region.linearise.go md ops fuel (t / (Region.ready md ops listed).length) (listed.setIfInBounds i true) [i]
      | none => [].reverse), ∀ o, ops[i]? = some o → ∀ e ∈ o.after, Region.binds md e = true → listed.getD e.on false = true ∨ (match (Region.ready md ops listed)[t % (Region.ready md ops listed).length]? with
      | some i => Region.linearise.go md ops fuel (t / (Region.ready md ops listed).length) (listed.setIfInBounds i true) [i]
      | none => [].reverse).idxOf e.on < (match (Region.ready md ops listed)[t % (Region.ready md ops listed).length]? with
      | some i => Region.linearise.go md ops fuel (t / (Region.ready md ops listed).length) (listed.setIfInBounds i true) [i]
      | none => [].reverse).idxOf i)
    cases hi : (Region.ready md ops listed)[t % (Region.ready md ops listed).length]? with
    | none =>
      have hnil : Region.ready md ops listed = [] := by
        cases hr : Region.ready md ops listed with
        | nil => rfl
        | cons x xs =>
          rw [hr] at hi
          have hlt : t % (x :: xs).length < (x :: xs).length := Nat.mod_lt _ (by simp)
          simp at hi
          simp at hlt
          omega
      refine ⟨by simp, fun i => ?_, by simp⟩
      constructor
      · intro h; simp at h
      · rintro ⟨h1, h2⟩
        exact absurd hnil (ready_some hf hs h1 h2)
    | some i =>
      simp only []
      rw [linearise_go_acc, List.reverse_singleton, List.singleton_append]
      have hrd := List.mem_of_getElem? hi
      obtain ⟨hl, oi, hoi, hai⟩ := mem_ready.1 hrd
      have hisz : i < ops.size := (Array.getElem?_eq_some_iff.1 hoi).1
      have hset : (listed.setIfInBounds i true).getD i true = true := by simp [hs, hisz]
      have hlt : unl ops (listed.setIfInBounds i true) < unl ops listed := by
        unfold unl
        refine filter_lt (i := i) (fun j hj => ?_) (by simp only [hl]; rfl) (by simp only [hset]; rfl) (List.mem_range.2 hisz)
        by_cases hji : i = j
        · subst hji; rw [hset] at hj; cases hj
        · rw [getD_set_ne true hji] at hj; exact hj
      obtain ⟨n1, n2, n3⟩ := lin_spec hf fuel (t / (Region.ready md ops listed).length) (listed.setIfInBounds i true) (by simp [hs]) (by omega)
      generalize hπ : Region.linearise.go md ops fuel (t / (Region.ready md ops listed).length) (listed.setIfInBounds i true) [] = π at n1 n2 n3 ⊢
      have hiπ : i ∉ π := fun h => by
        have := ((n2 i).1 h).2
        rw [hset] at this; cases this
      refine ⟨List.nodup_cons.2 ⟨hiπ, n1⟩, fun j => ?_, fun j hj o ho e he hb => ?_⟩
      · rw [List.mem_cons, n2 j]
        by_cases hji : j = i
        · subst hji; simp [hisz, hl]
        · rw [getD_set_ne true (Ne.symm hji)]; simp [hji]
      · by_cases hji : j = i
        · subst hji
          rw [hoi] at ho
          cases ho
          exact .inl (hai e he hb)
        · have hjπ : j ∈ π := by simpa [hji] using hj
          rcases n3 j hjπ o ho e he hb with h | h
          · by_cases hei : e.on = i
            · right
              rw [hei, List.idxOf_cons_self, idxOf_cons_ne hji]; omega
            · left
              rw [getD_set_ne false (Ne.symm hei)] at h; exact h
          · right
            have hem := idxOf_lt_mem h
            have hei : e.on ≠ i := fun h => hiπ (h ▸ hem)
            rw [idxOf_cons_ne hei, idxOf_cons_ne hji]; omega

/-- Whatever the tape answers. -/
theorem lin_all (hf : Fwd .any ops) (t : Nat) : (Region.linearise .any ops t).Nodup ∧ (∀ i, i ∈ Region.linearise .any ops t ↔ i < ops.size) ∧
    (∀ (i : Nat) o, ops[i]? = some o → ∀ e ∈ o.after, Region.binds .any e = true → (Region.linearise .any ops t).idxOf e.on < (Region.linearise .any ops t).idxOf i) := by
  obtain ⟨h1, h2, h3⟩ := lin_spec hf ops.size t (Array.replicate ops.size false) (by simp) (by
    unfold unl
    exact Nat.le_trans (List.length_filter_le _ _) (by simp))
  have hm : ∀ i, i ∈ Region.linearise .any ops t ↔ i < ops.size := by
    intro i
    refine (h2 i).trans ?_
    constructor
    · exact fun h => h.1
    · intro h; exact ⟨h, by simp [h]⟩
  refine ⟨h1, hm, fun i o ho e he hb => ?_⟩
  have hi : i < ops.size := (Array.getElem?_eq_some_iff.1 ho).1
  rcases h3 i ((hm i).2 hi) o ho e he hb with h | h
  · exfalso
    have hlt := hf i o ho e he hb
    have : e.on < ops.size := by omega
    simp [this] at h
  · exact h
end

/-! ### Orders that stand for all -/
def afters (ops : Array Oper) : List (List Nat) := ops.toList.map fun o => (o.after.toList.filter fun e => Region.binds .any e).map (·.on)

def ancT : List (List Nat) → List (List Nat) → List (List Nat)
  | [], acc => acc
  | a :: r, acc => ancT r (acc ++ [(a ++ a.flatMap fun i => acc.getD i []).eraseDups])

def fwdL : Nat → List (List Nat) → Bool
  | _, [] => true
  | i, a :: r => a.all (fun j => decide (j < i)) && fwdL (i + 1) r

def okAt (il : List IOper) (x y : Nat) : Bool :=
  match il[x]?, il[y]? with
  | some p, some q => okP p q
  | _, _ => false

def unres (A : List (List Nat)) (il : List IOper) : List (Nat × Nat) :=
  (List.range il.length).flatMap fun i => (List.range i).filterMap fun j =>
    if (A.getD i []).contains j then none else if okAt il j i && okAt il i j then none else some (j, i)

def orients : List (Nat × Nat) → List (List (Nat × Nat))
  | [] => [[]]
  | (x, y) :: r => (orients r).flatMap fun E => [(x, y) :: E, (y, x) :: E]

def goodR (A : List (List Nat)) (il : List IOper) (E : List (Nat × Nat)) : List Nat → Bool
  | [] => true
  | x :: r => r.all (fun y => (A.getD y []).contains x || okAt il x y || E.contains (x, y)) && goodR A il E r

def nodupB : List Nat → Bool
  | [] => true
  | x :: r => !r.contains x && nodupB r

def okRep (A : List (List Nat)) (il : List IOper) (E : List (Nat × Nat)) (r : List Nat) : Bool :=
  nodupB r && r.all (fun i => decide (i < il.length)) && (List.range il.length).all (fun i => r.contains i) && goodR A il E r

def topo (n : Nat) (F : List (List Nat)) (E : List (Nat × Nat)) : Nat → List Nat → List Nat
  | 0, done => done
  | fuel + 1, done =>
    match (List.range n).find? fun i => !done.contains i && (F.getD i []).all (done.contains ·) && E.all (fun p => p.2 != i || done.contains p.1) with
    | some i => topo n F E fuel (done ++ [i])
    | none => done

/-- May these pairs stand so, all of them? -/
def consB (A : List (List Nat)) (E : List (Nat × Nat)) : Bool :=
  E.all fun p => E.all fun q => !((p.2 == q.1 || (A.getD q.1 []).contains p.2) && (q.2 == p.1 || (A.getD p.1 []).contains q.2))

theorem unres_ne {A : List (List Nat)} {il : List IOper} {p : Nat × Nat} (h : p ∈ unres A il) : p.1 < p.2 := by
  unfold unres at h
  obtain ⟨i, hi, h⟩ := List.mem_flatMap.1 h
  obtain ⟨j, hj, h⟩ := List.mem_filterMap.1 h
  split at h
  · cases h
  · split at h
    · cases h
    · cases h
      simpa using List.mem_range.1 hj
theorem orients_of : ∀ {U : List (Nat × Nat)} {E : List (Nat × Nat)}, E ∈ orients U → ∀ p ∈ E, p ∈ U ∨ (p.2, p.1) ∈ U
  | [], E, h, p, hp => by
    simp only [orients, List.mem_singleton] at h
    subst h
    cases hp
  | (x, y) :: r, E, h, p, hp => by
    simp only [orients, List.mem_flatMap] at h
    obtain ⟨E0, h0, h1⟩ := h
    simp only [List.mem_cons, List.mem_nil_iff, or_false] at h1
    rcases h1 with rfl | rfl
    · rcases List.mem_cons.1 hp with rfl | hp
      · exact .inl (by simp)
      · rcases orients_of h0 p hp with h | h
        · exact .inl (List.mem_cons_of_mem _ h)
        · exact .inr (List.mem_cons_of_mem _ h)
    · rcases List.mem_cons.1 hp with rfl | hp
      · exact .inr (by simp)
      · rcases orients_of h0 p hp with h | h
        · exact .inl (List.mem_cons_of_mem _ h)
        · exact .inr (List.mem_cons_of_mem _ h)

def cDrawn (P : Program) (ops : Array Oper) (il : List IOper) : Option (List (List IOper)) :=
  let F := afters ops
  let A := ancT F []
  let U := unres A il
  let Es := (orients U).filter (consB A)
  let reps := Es.map fun E => topo il.length F E il.length []
  if P.follows .mixedOrders && fwdL 0 F && decide (U.length ≤ 6) && il.all IOper.ok && decide (il.length = ops.size) && Es.all (fun E => reps.any fun r => okRep A il E r) && (reps.all fun r => !isMl (r.filterMap fun i => il[i]?)) then
    some (reps.map fun r => r.filterMap fun i => il[i]?)
  else none

def bef (π : List Nat) (x y : Nat) : Prop := π.idxOf x < π.idxOf y

theorem fwdL_spec : ∀ {l : List (List Nat)} {n : Nat}, fwdL n l = true → ∀ i a, l[i]? = some a → ∀ j ∈ a, j < n + i
  | [], n, _, i, a, ha, _, _ => by simp at ha
  | b :: r, n, h, i, a, ha, j, hj => by
    simp only [fwdL, Bool.and_eq_true, List.all_eq_true, decide_eq_true_eq] at h
    cases i with
    | zero => simp at ha; subst ha; simpa using h.1 j hj
    | succ i =>
      have := fwdL_spec h.2 i a (by simpa using ha) j hj
      omega

theorem ancT_spec {π : List Nat} : ∀ {l acc : List (List Nat)}, (∀ i x, x ∈ acc.getD i [] → bef π x i) → (∀ (i : Nat) a, l[i]? = some a → ∀ j ∈ a, bef π j (acc.length + i)) → ∀ i x, x ∈ (ancT l acc).getD i [] → bef π x i
  | [], acc, h, _, i, x, hx => h i x hx
  | a :: r, acc, h, hl, i, x, hx => by
    simp only [ancT] at hx
    refine ancT_spec (l := r) (acc := acc ++ [(a ++ a.flatMap fun i => acc.getD i []).eraseDups]) (fun k y hy => ?_) (fun k b hb j hj => ?_) i x hx
    · by_cases hk : k < acc.length
      · refine h k y ?_
        simpa [List.getD, List.getElem?_append_left hk] using hy
      · by_cases hk2 : k = acc.length
        · subst hk2
          have hy' : y ∈ a ++ a.flatMap fun i => acc.getD i [] := by
            have : (acc ++ [(a ++ a.flatMap fun i => acc.getD i []).eraseDups]).getD acc.length [] = (a ++ a.flatMap fun i => acc.getD i []).eraseDups := by simp [List.getD]
            rw [this] at hy
            exact List.mem_eraseDups.1 hy
          rcases List.mem_append.1 hy' with hy | hy
          · simpa using hl 0 a (by simp) y hy
          · obtain ⟨z, hz, hzy⟩ := List.mem_flatMap.1 hy
            have h1 := hl 0 a (by simp) z hz
            have h2 := h z y hzy
            simp only [bef, Nat.add_zero] at h1 h2 ⊢
            omega
        · have : (acc ++ [(a ++ a.flatMap fun i => acc.getD i []).eraseDups]).getD k [] = [] := by
            rw [List.getD, List.getElem?_eq_none (by simp; omega)]; rfl
          rw [this] at hy
          cases hy
    · have := hl (k + 1) b (by simpa using hb) j hj
      simp only [List.length_append, List.length_singleton]
      have e : acc.length + 1 + k = acc.length + (k + 1) := by omega
      rw [e]; exact this

theorem orients_mem (π : List Nat) : ∀ U : List (Nat × Nat), ∃ E ∈ orients U, ∀ p ∈ E, π.idxOf p.1 ≤ π.idxOf p.2
  | [] => ⟨[], by simp [orients], by simp⟩
  | (x, y) :: r => by
    obtain ⟨E, h1, h2⟩ := orients_mem π r
    simp only [orients]
    by_cases h : π.idxOf x ≤ π.idxOf y
    · refine ⟨(x, y) :: E, List.mem_flatMap.2 ⟨E, h1, by simp⟩, fun p hp => ?_⟩
      rcases List.mem_cons.1 hp with rfl | hp
      · exact h
      · exact h2 p hp
    · refine ⟨(y, x) :: E, List.mem_flatMap.2 ⟨E, h1, by simp⟩, fun p hp => ?_⟩
      rcases List.mem_cons.1 hp with rfl | hp
      · simp only; omega
      · exact h2 p hp

theorem nodupB_spec : ∀ {l : List Nat}, nodupB l = true → l.Nodup
  | [], _ => by simp
  | x :: r, h => by
    simp only [nodupB, Bool.and_eq_true, Bool.not_eq_true', List.contains_eq_mem, decide_eq_false_iff_not] at h
    exact List.nodup_cons.2 ⟨h.1, nodupB_spec h.2⟩

theorem goodR_spec {A : List (List Nat)} {il : List IOper} {E : List (Nat × Nat)} : ∀ {r : List Nat}, goodR A il E r = true → ∀ x y, y ∈ r → r.idxOf x < r.idxOf y → x ∈ A.getD y [] ∨ okAt il x y = true ∨ (x, y) ∈ E
  | [], _, x, y, hy, _ => by simp at hy
  | z :: r, h, x, y, hy, hxy => by
    simp only [goodR, Bool.and_eq_true, List.all_eq_true, Bool.or_eq_true, List.contains_eq_mem, decide_eq_true_eq] at h
    by_cases hyz : y = z
    · subst hyz; rw [List.idxOf_cons_self] at hxy; omega
    · have hy' : y ∈ r := by simpa [hyz] using hy
      by_cases hxz : x = z
      · subst hxz
        rcases h.1 y hy' with (h | h) | h
        · exact .inl h
        · exact .inr (.inl h)
        · exact .inr (.inr h)
      · rw [idxOf_cons_ne hxz, idxOf_cons_ne hyz] at hxy
        exact goodR_spec h.2 x y hy' (by omega)

section
variable {P : Program} {kf : Nat → Nat} {T : Tb} {X : Nat → Prop} {Y : Env} {w0 w : World} {c : Cx} {s : St} {a : Act}

theorem VCalt_mem {Q : St → Prop} : ∀ {ls : List (List IOper)}, VCalt T Q s ls → ∀ l ∈ ls, if isMl l = true then VCopsM T l.tail Q s else VCops T l Q s
  | [], _, l, hl => by simp at hl
  | _ :: r, h, l, hl => by
    rcases List.mem_cons.1 hl with rfl | hl
    · exact h.1
    · exact VCalt_mem h.2 l hl

theorem Closed.cl (Q : St → Prop) : Closed fun t => ∃ s, St.eqv s t ∧ Q s := fun _ _ h ⟨u, h1, h2⟩ => ⟨u, h1.trans h, h2⟩

theorem drawn_sound (hT : TbOK P kf T) {id : Nat} {ops : Array Oper} {il : List IOper} (hil : ∀ (i : Nat) (oo : Oper), ops[i]? = some oo → ∃ o, il[i]? = some o ∧ cOper P kf ops oo = some o) {ls : List (List IOper)} (hc : cDrawn P ops il = some ls)
    {Qs : St → Prop} {Q : Exit → Act → World → Prop} (hQ : ∀ s c a w, Qs s → Sat T X Y w0 c s a w → Q .normal a w) (h : Sat T X Y w0 c s a w) (hv : VCalt T Qs s ls) : (Code.region id ops true).wp P Q a w := by
  unfold cDrawn at hc
  simp only at hc
  split at hc
  case isFalse => cases hc
  rename_i hchk
  cases hc
  simp only [Bool.and_eq_true, decide_eq_true_eq] at hchk
  obtain ⟨⟨⟨⟨⟨⟨h1, h2⟩, _⟩, h4⟩, h5⟩, h6⟩, h7⟩ := hchk
  have hF : ∀ (i : Nat) (o : Oper), ops[i]? = some o → ∀ j, j ∈ (afters ops).getD i [] ↔ ∃ e ∈ o.after, Region.binds .any e = true ∧ e.on = j := by
    intro i o ho j
    have : (afters ops).getD i [] = (o.after.toList.filter fun e => Region.binds .any e).map (·.on) := by
      simp only [afters, List.getD, List.getElem?_map, Array.getElem?_toList, ho]; rfl
    rw [this]
    simp only [List.mem_map, List.mem_filter, Array.mem_toList_iff]
    constructor
    · rintro ⟨e, ⟨q1, q2⟩, q3⟩; exact ⟨e, q1, q2, q3⟩
    · rintro ⟨e, q1, q2, q3⟩; exact ⟨e, ⟨q1, q2⟩, q3⟩
  have hf : Fwd .any ops := by
    intro i o ho e he hb
    have hi : i < ops.size := (Array.getElem?_eq_some_iff.1 ho).1
    have hmem := (hF i o ho e.on).2 ⟨e, he, hb, rfl⟩
    have hget : (afters ops)[i]? = some ((afters ops).getD i []) := by
      simp [afters, List.getD, hi]
    have := fwdL_spec h2 i _ hget e.on hmem
    omega
  refine wp_region_draw fun t => ?_
  simp only [Region.schedule, h1, Bool.true_or, if_true]
  obtain ⟨p1, p2, p3⟩ := lin_all hf t
  generalize Region.linearise .any ops t = π at p1 p2 p3 ⊢
  have hA : ∀ i x, x ∈ (ancT (afters ops) []).getD i [] → bef π x i := by
    refine ancT_spec (fun i x hx => by simp at hx) fun i b hb j hj => ?_
    simp only [List.length_nil, Nat.zero_add]
    have hi : i < ops.size := by
      have := (List.getElem?_eq_some_iff.1 hb).1
      simpa [afters] using this
    obtain ⟨e, q1, q2, rfl⟩ := (hF i ops[i] (by simp [hi]) j).1 (by simpa [List.getD, hb] using hj)
    exact p3 i ops[i] (by simp [hi]) e q1 q2
  obtain ⟨E, hE1, hE2⟩ := orients_mem π (unres (ancT (afters ops) []) il)
  have hcons : consB (ancT (afters ops) []) E = true := by
    unfold consB
    rw [List.all_eq_true]
    intro p hp
    rw [List.all_eq_true]
    intro q hq
    have hpq := hE2 p hp
    have hqq := hE2 q hq
    have hne : ∀ p ∈ E, p.1 ≠ p.2 ∧ p.1 ∈ π ∧ p.2 ∈ π := by
      intro p hp
      have hu : ∀ p ∈ unres (ancT (afters ops) []) il, p.1 ≠ p.2 ∧ p.1 ∈ π ∧ p.2 ∈ π := by
        intro p hp
        have hlt := unres_ne hp
        have hlen : p.2 < il.length := by
          unfold unres at hp
          obtain ⟨i, hi, h⟩ := List.mem_flatMap.1 hp
          obtain ⟨j, hj, h⟩ := List.mem_filterMap.1 h
          split at h
          · cases h
          · split at h
            · cases h
            · cases h; exact List.mem_range.1 hi
        exact ⟨by omega, (p2 p.1).2 (by omega), (p2 p.2).2 (by omega)⟩
      rcases orients_of hE1 p hp with h | h
      · exact hu p h
      · have := hu _ h
        exact ⟨Ne.symm this.1, this.2.2, this.2.1⟩
    have le1 : (p.2 == q.1 || ((ancT (afters ops) []).getD q.1 []).contains p.2) = true → π.idxOf p.2 ≤ π.idxOf q.1 := by
      intro h
      simp only [Bool.or_eq_true, beq_iff_eq, List.contains_eq_mem, decide_eq_true_eq] at h
      rcases h with h | h
      · rw [h]; exact Nat.le_refl _
      · exact Nat.le_of_lt (hA _ _ h)
    have le2 : (q.2 == p.1 || ((ancT (afters ops) []).getD p.1 []).contains q.2) = true → π.idxOf q.2 ≤ π.idxOf p.1 := by
      intro h
      simp only [Bool.or_eq_true, beq_iff_eq, List.contains_eq_mem, decide_eq_true_eq] at h
      rcases h with h | h
      · rw [h]; exact Nat.le_refl _
      · exact Nat.le_of_lt (hA _ _ h)
    rw [Bool.not_eq_true', Bool.and_eq_false_iff]
    by_cases c1 : (p.2 == q.1 || ((ancT (afters ops) []).getD q.1 []).contains p.2) = true
    · by_cases c2 : (q.2 == p.1 || ((ancT (afters ops) []).getD p.1 []).contains q.2) = true
      · exfalso
        have a1 := le1 c1
        have a2 := le2 c2
        have hidx : π.idxOf p.1 = π.idxOf p.2 := by omega
        obtain ⟨n1, n2, n3⟩ := hne p hp
        have h1 := List.getElem_idxOf (List.idxOf_lt_length_of_mem n2)
        have h2 := List.getElem_idxOf (List.idxOf_lt_length_of_mem n3)
        apply n1
        rw [← h1, ← h2]
        simp only [hidx]
      · exact .inr (by simpa using c2)
    · exact .inl (by simpa using c1)
  have := List.all_eq_true.1 h6 E (List.mem_filter.2 ⟨hE1, hcons⟩)
  obtain ⟨r, hr1, hr2⟩ := List.any_eq_true.1 this
  unfold okRep at hr2
  simp only [Bool.and_eq_true, List.all_eq_true, decide_eq_true_eq, List.contains_eq_mem, List.mem_range] at hr2
  obtain ⟨⟨⟨g1, g2⟩, g3⟩, g4⟩ := hr2
  have hvr := VCalt_mem hv (r.filterMap fun i => il[i]?) (List.mem_map.2 ⟨r, hr1, rfl⟩)
  have hnm := List.all_eq_true.1 h7 r hr1
  rw [if_neg (by simpa using hnm)] at hvr
  have hS : Sat T X Y w0 c s a { w with drawn := w.drawn + 1 } := h.world ⟨rfl, rfl, rfl, Nat.le_refl _, fun _ _ _ => rfl⟩
  have hmem : ∀ i, i ∈ r ↔ i ∈ π := fun i => ⟨fun hi => (p2 i).2 (by have := g2 i hi; omega), fun hi => g3 i (by have := (p2 i).1 hi; omega)⟩
  refine ops_any (X := X) (Y := Y) (w0 := w0) hT hil (fun o ho => List.all_eq_true.1 h4 o ho) (Closed.cl Qs) (fun t c a w ⟨u, q1, q2⟩ hSat => hQ u c a w q2 (hSat.eqv q1.symm)) π r p1 (nodupB_spec g1) hmem (fun i hi => (p2 i).1 hi) (fun x y hxy hyx => ?_) hS (VCops_mono (fun s hs => ⟨s, St.eqv.refl s, hs⟩) hvr)
  have hy : y ∈ r := (hmem y).2 (idxOf_lt_mem hyx)
  rcases goodR_spec g4 x y hy hxy with q | q | q
  · have := hA y x q
    simp only [bef] at this
    omega
  · intro p p' hp hp'
    simpa [okAt, hp, hp'] using q
  · have := hE2 _ q
    simp only at this
    omega
end
end Go.Vcg

namespace Go.Vcg

/-! ### Regions with several appends to rows -/
def D.leaf : D → Bool
  | .any | .agg _ | .tup _ | .clo _ _ | .wh _ _ => false
  | _ => true
theorem fgt_leaf {k : Nat} {d e : D} (he : e.leaf = true) (h : d.forget k = e) : d = e := by
  cases d <;> simp only [D.forget] at h <;> (try split at h) <;> subst h <;> first | rfl | (simp [D.leaf] at he)
theorem fgts_leaf {e : D} (he : e.leaf = true) : ∀ {ks : List Nat} {d : D}, d.forgets ks = e → d = e
  | [], _, h => h
  | _ :: _, _, h => fgt_leaf he (fgts_leaf he h)
theorem fgt_un (k : Nat) (d : D) : (d.forget k).un = d.un.forget k ∧ (d.forget k).gu = d.gu := by
  cases d <;> first | exact ⟨rfl, rfl⟩ | (simp [D.forget, D.un, D.gu]; done) | (simp only [D.forget]; split <;> simp [D.un, D.gu, D.forget, *])
theorem fgts_un : ∀ (ks : List Nat) (d : D), (d.forgets ks).un = d.un.forgets ks ∧ (d.forgets ks).gu = d.gu
  | [], d => ⟨rfl, rfl⟩
  | k :: r, d => by
    simp only [D.forgets]
    rw [(fgts_un r _).1, (fgts_un r _).2, (fgt_un k d).1, (fgt_un k d).2]
    exact ⟨rfl, rfl⟩
theorem fgt_cells (k : Nat) (d : D) : (d.forget k).cells = d.cells.map (D.forget k) := by
  cases d <;> first | rfl | (simp [D.forget, D.cells, forgetL_map]; done) | (simp only [D.forget]; split <;> simp [D.cells, D.forget, *])
theorem fgts_cells : ∀ (ks : List Nat) (d : D), (d.forgets ks).cells = d.cells.map (D.forgets ks)
  | [], d => by have : D.forgets [] = id := rfl; simp [this]
  | k :: r, d => by simp only [D.forgets]; rw [fgts_cells r, fgt_cells, List.map_map]; rfl
theorem fgt_cell' (k : Nat) {d : D} (h : (d.forget k).cell' = true) : d.cell' = true := by
  cases d <;> simp only [D.forget] at h <;> (try split at h) <;> first | rfl | exact h | (simp [D.cell'] at h)
theorem fgts_cell' : ∀ (ks : List Nat) {d : D}, (d.forgets ks).cell' = true → d.cell' = true
  | [], _, h => h
  | k :: r, _, h => fgt_cell' k (fgts_cell' r h)
theorem cell_leaf {d : D} (h : d.cell = true) : d.leaf = true := by cases d <;> first | rfl | (simp [D.cell] at h)
theorem fgts_cell {ks : List Nat} {d : D} (h : (d.forgets ks).cell = true) : d.forgets ks = d := (fgts_leaf (cell_leaf h) rfl).symm
mutual
theorem clos_fgt (k : Nat) : ∀ (d : D), d.clos = true → d.forget k = d
  | .int _ _, _ | .bool _, _ | .str _, _ | .nilp, _ | .nl _, _ | .fz _ _, _ | .ad _ _ _ _, _ | .any, _ | .ub, _ | .err _, _ | .xad _, _ => by simp only [D.forget]
  | .row k, h | .own k _, h | .elr k _ _ _, h | .vw k _ _ _ _, h | .wh _ _, h | .sub _ _, h | .sbx _, h => by simp [D.clos] at h
  | .agg cs, h => by simp only [D.clos] at h; simp only [D.forget, closL_fgt k cs h]
  | .tup cs, h => by simp only [D.clos] at h; simp only [D.forget, closL_fgt k cs h]
  | .clo f cs, h => by simp only [D.clos] at h; simp only [D.forget, closL_fgt k cs h]
theorem closL_fgt (k : Nat) : ∀ (ds : List D), closL ds = true → forgetL k ds = ds
  | [], _ => by simp only [forgetL]
  | d :: ds, h => by
    simp only [closL, Bool.and_eq_true] at h
    simp only [forgetL, clos_fgt k d h.1, closL_fgt k ds h.2]
end
theorem clos_fgts : ∀ (ks : List Nat) {d : D}, d.clos = true → d.forgets ks = d
  | [], _, _ => rfl
  | k :: r, d, h => by simp only [D.forgets, clos_fgt k d h, clos_fgts r h]
theorem closL_fgts (ks : List Nat) : ∀ {ds : List D}, closL ds = true → ds.map (D.forgets ks) = ds
  | [], _ => rfl
  | d :: ds, h => by
    simp only [closL, Bool.and_eq_true] at h
    simp only [List.map_cons, clos_fgts ks h.1, closL_fgts ks h.2]
mutual
theorem lv_fgt {lk lk' : Nat → Option Ob} {k : Nat} (hl : ∀ i, i ≠ k → (lk i).isSome = true → (lk' i).isSome = true) : ∀ (d : D), d.lv lk = true → (d.forget k).lv lk' = true
  | .int _ _, _ | .bool _, _ | .str _, _ | .nilp, _ | .nl _, _ | .fz _ _, _ | .ad _ _ _ _, _ | .any, _ | .ub, _ | .err _, _ | .xad _, _ | .wh _ _, _ | .sub _ _, _ | .sbx _, _ => by simp only [D.forget, D.lv]
  | .row j, h | .own j _, h | .elr j _ _ _, h | .vw j _ _ _ _, h => by
    simp only [D.forget]
    simp only [D.lv] at h
    split
    · rfl
    · simp only [D.lv]; exact hl j ‹_› h
  | .agg cs, h => by simp only [D.lv] at h; simp only [D.forget, D.lv]; exact lvL_fgt hl cs h
  | .tup cs, h => by simp only [D.lv] at h; simp only [D.forget, D.lv]; exact lvL_fgt hl cs h
  | .clo f cs, h => by simp only [D.lv] at h; simp only [D.forget, D.lv]; exact lvL_fgt hl cs h
theorem lvL_fgt {lk lk' : Nat → Option Ob} {k : Nat} (hl : ∀ i, i ≠ k → (lk i).isSome = true → (lk' i).isSome = true) : ∀ (ds : List D), lvL lk ds = true → lvL lk' (forgetL k ds) = true
  | [], _ => by simp only [forgetL, lvL]
  | d :: ds, h => by
    simp only [lvL, Bool.and_eq_true] at h
    simp only [forgetL, lvL, Bool.and_eq_true]
    exact ⟨lv_fgt hl d h.1, lvL_fgt hl ds h.2⟩
end
mutual
theorem lv_some {lk lk' : Nat → Option Ob} (hl : ∀ i, (lk i).isSome = true → (lk' i).isSome = true) : ∀ (d : D), d.lv lk = true → d.lv lk' = true
  | .int _ _, _ | .bool _, _ | .str _, _ | .nilp, _ | .nl _, _ | .fz _ _, _ | .ad _ _ _ _, _ | .any, _ | .ub, _ | .err _, _ | .xad _, _ | .wh _ _, _ | .sub _ _, _ | .sbx _, _ => by simp only [D.lv]
  | .row j, h | .own j _, h | .elr j _ _ _, h | .vw j _ _ _ _, h => by simp only [D.lv] at h ⊢; exact hl j h
  | .agg cs, h => by simp only [D.lv] at h ⊢; exact lvL_some hl cs h
  | .tup cs, h => by simp only [D.lv] at h ⊢; exact lvL_some hl cs h
  | .clo f cs, h => by simp only [D.lv] at h ⊢; exact lvL_some hl cs h
theorem lvL_some {lk lk' : Nat → Option Ob} (hl : ∀ i, (lk i).isSome = true → (lk' i).isSome = true) : ∀ (ds : List D), lvL lk ds = true → lvL lk' ds = true
  | [], _ => by simp only [lvL]
  | d :: ds, h => by
    simp only [lvL, Bool.and_eq_true] at h ⊢
    exact ⟨lv_some hl d h.1, lvL_some hl ds h.2⟩
end
theorem lv_fgts : ∀ {ks : List Nat} {lk lk' : Nat → Option Ob}, (∀ i, i ∉ ks → (lk i).isSome = true → (lk' i).isSome = true) → ∀ {d : D}, d.lv lk = true → (d.forgets ks).lv lk' = true
  | [], lk, lk', hl, d, h => lv_some (fun i => hl i (by simp)) d h
  | k :: r, lk, lk', hl, d, h => by
    simp only [D.forgets]
    exact lv_fgts (lk := fun i => if i = k then none else lk i) (fun i hi h => by
      by_cases hk : i = k
      · simp [hk] at h
      · simp only [hk, if_false] at h
        exact hl i (by simp [hk, hi]) h) (lv_fgt (fun i hi h => by simp [hi, h]) d h)
theorem fgts_any : ∀ ks : List Nat, D.any.forgets ks = .any
  | [] => rfl
  | _ :: r => fgts_any r
theorem fgts_agg : ∀ (ks : List Nat) (l : List D), (D.agg l).forgets ks = .agg (l.map (D.forgets ks))
  | [], l => by have : D.forgets [] = id := rfl; simp [this]
  | k :: r, l => by simp only [D.forgets, D.forget, fgts_agg r, forgetL_map, List.map_map]; rfl
theorem fgts_own (b o : Nat) : ∀ ks : List Nat, (D.own b o).forgets ks = if ks.contains b = true then .any else .own b o
  | [] => rfl
  | k :: r => by
    simp only [D.forgets, D.forget]
    by_cases hb : b = k
    · subst hb; simp [fgts_any]
    · have : (b == k) = false := by simpa using hb
      simp only [hb, if_false, fgts_own b o r, List.contains_cons, this, Bool.false_or]
theorem fgts_elr (b z i o : Nat) : ∀ ks : List Nat, (D.elr b z i o).forgets ks = if ks.contains b = true then .any else .elr b z i o
  | [] => rfl
  | k :: r => by
    simp only [D.forgets, D.forget]
    by_cases hb : b = k
    · subst hb; simp [fgts_any]
    · have : (b == k) = false := by simpa using hb
      simp only [hb, if_false, fgts_elr b z i o r, List.contains_cons, this, Bool.false_or]
theorem fgts_row (b : Nat) : ∀ ks : List Nat, (D.row b).forgets ks = if ks.contains b = true then .any else .row b
  | [] => rfl
  | k :: r => by
    simp only [D.forgets, D.forget]
    by_cases hb : b = k
    · subst hb; simp [fgts_any]
    · have : (b == k) = false := by simpa using hb
      simp only [hb, if_false, fgts_row b r, List.contains_cons, this, Bool.false_or]
theorem fgts_ad (sz : Nat) (es : List (List D)) (i o : Nat) : ∀ ks : List Nat, (D.ad sz es i o).forgets ks = .ad sz es i o
  | [] => rfl
  | _ :: r => fgts_ad sz es i o r
theorem fgts_int (k : IntKind) (n : Int) : ∀ ks : List Nat, (D.int k n).forgets ks = .int k n
  | [] => rfl
  | _ :: r => fgts_int k n r

/-! ### What may go ahead -/
def IOp.fg : IOp → Bool
  | .mov _ | .nilc _ | .faddr .. | .load .. | .len _ | .mks .. | .bslice .. => true
  | .build z _ => closL z
  | _ => false
def Opd.nog : Opd → Bool
  | .g _ => false
  | _ => true
def vchk (ev : Opd → D) : IOp → Prop
  | .load _ _ x => match ev x with | .own _ _ => True | _ => False
  | .len x => match ev x with | .fz _ _ => True | .nl _ => True | _ => False
  | _ => True
theorem lchk_v {T : Tb} {s : St} (op : IOp) : lchk T s op = vchk (fun y => (y.ev T s).un) op := by cases op <;> rfl
theorem vchk_congr {ev ev' : Opd → D} {op : IOp} (h : ∀ x ∈ op.opds, ev x = ev' x) : vchk ev op = vchk ev' op := by
  cases op <;> first | rfl | (simp only [IOp.opds, List.mem_singleton, forall_eq] at h; simp only [vchk, h])
theorem splice_map (f : D → D) (cs ds : List D) (off : Nat) : splice (cs.map f) off (ds.map f) = (splice cs off ds).map f := by simp [splice]
theorem fillParts_fgts (ks : List Nat) (ev : Opd → D) : ∀ (ps : List (Nat × Nat × Opd)) (cs : List D), ∃ φ φ' out, fillParts ev ps cs = some (φ, out) ∧ fillParts (fun y => (ev y).forgets ks) ps (cs.map (D.forgets ks)) = some (φ', out.map (D.forgets ks)) ∧ (φ' → φ)
  | [], cs => ⟨True, True, cs, rfl, rfl, id⟩
  | (off, n, x) :: r, cs => by
    obtain ⟨φ, φ', out, h1, h2, h3⟩ := fillParts_fgts ks ev r (splice cs off (ev x).cells)
    refine ⟨_, _, out, by simp only [fillParts, h1]; rfl, by simp only [fillParts]; rw [fgts_cells, splice_map, h2], ?_⟩
    rintro ⟨a, b, c, d⟩
    refine ⟨by simpa using a, ?_, by simpa using c, h3 d⟩
    rw [List.all_eq_true] at b ⊢
    exact fun y hy => fgts_cell' ks (b _ (List.mem_map.2 ⟨y, hy, rfl⟩))
theorem cells_same {ks : List Nat} {d : D} (h : (d.forgets ks).cells.all D.cell = true) : (d.forgets ks).cells = d.cells := by
  rw [fgts_cells] at h ⊢
  rw [List.all_eq_true] at h
  have : ∀ c ∈ d.cells, D.forgets ks c = id c := fun c hc => fgts_cell (h _ (List.mem_map.2 ⟨c, hc, rfl⟩))
  rw [List.map_congr_left this, List.map_id]
theorem fillRows_fgts {sz : Nat} (ks : List Nat) (ev : Opd → D) : ∀ (ps : List (Nat × Opd)) (es : List (List D)) {φ out}, fillRows sz (fun y => (ev y).forgets ks) ps es = some (φ, out) → φ → ∃ φ', fillRows sz ev ps es = some (φ', out) ∧ φ'
  | [], es, φ, out, h, hφ => ⟨φ, h, hφ⟩
  | (i, x) :: r, es, φ, out, h, hφ => by
    simp only [fillRows] at h ⊢
    split at h
    · rename_i φ1 out1 h1
      cases h
      obtain ⟨a, b, c, d⟩ := hφ
      rw [cells_same b] at h1 a b
      obtain ⟨φ2, e1, e2⟩ := fillRows_fgts ks ev r _ h1 d
      rw [e1]
      exact ⟨_, rfl, a, b, c, e2⟩
    · cases h
theorem fg_act {T : Tb} {op : IOp} {ev : Opd → D} {lk lk' : Nat → Option Ob} {ks : List Nat} (hfg : op.fg = true) (hbox : ∀ i cs, lk' i = some (.box cs) → ∃ c0, lk i = some (.box c0) ∧ cs = c0.map (D.forgets ks))
    (hl : vchk (fun y => (ev y).forgets ks) op) {φ : Prop} {e' : Eff} (h : act T op (fun y => (ev y).forgets ks) lk' = some (φ, e')) (hφ : φ) :
    vchk ev op ∧ ∃ φ0 e, act T op ev lk = some (φ0, e) ∧ φ0 ∧ ((∃ d, e = .val d ∧ e' = .val (d.forgets ks)) ∨ ∃ sz es, e = .new (.row sz es) false ∧ e' = e) := by
  cases op <;> simp only [IOp.fg] at hfg <;> try (cases hfg; done)
  case mov x =>
    simp only [act, Option.some.injEq, Prod.mk.injEq] at h
    exact ⟨trivial, True, _, rfl, trivial, .inl ⟨_, rfl, h.2.symm⟩⟩
  case nilc x =>
    refine ⟨trivial, ?_⟩
    simp only [act] at h ⊢
    cases hd : (ev x).forgets ks <;> rw [hd] at h <;> try (cases h; done)
    all_goals
      have hx := fgts_leaf rfl hd
      rw [hx] at hd ⊢
      cases h
      exact ⟨_, _, rfl, trivial, .inl ⟨_, rfl, by rw [hd]⟩⟩
  case faddr off x =>
    refine ⟨trivial, ?_⟩
    simp only [act] at h ⊢
    cases hd : (ev x).forgets ks <;> rw [hd] at h <;> try (cases h; done)
    all_goals
      have hx := fgts_leaf rfl hd
      rw [hx] at hd ⊢
      cases h
      refine ⟨_, _, rfl, trivial, .inl ⟨_, rfl, ?_⟩⟩
      simp only [fgts_own, fgts_elr, fgts_ad] at hd ⊢
      try (split at hd; · cases hd)
      try rw [if_neg ‹_›]
  case load n ag x =>
    simp only [vchk] at hl ⊢
    simp only [act] at h ⊢
    cases hd : (ev x).forgets ks <;> rw [hd] at hl <;> try (exact hl.elim)
    rename_i k off
    have hx := fgts_leaf rfl hd
    rw [hd] at h
    rw [hx]
    refine ⟨trivial, ?_⟩
    simp only at h ⊢
    cases hk : lk' k with
    | none => rw [hk] at h; cases h
    | some ob =>
      rw [hk] at h
      cases ob <;> try (cases h; done)
      rename_i cs
      obtain ⟨c0, h0, rfl⟩ := hbox k cs hk
      rw [h0]
      cases h
      refine ⟨_, _, rfl, by simpa using hφ, .inl ⟨_, rfl, ?_⟩⟩
      cases ag
      · simp only [cut, List.getD, List.getElem?_map]
        cases c0[off]? with
        | none => simp [fgts_any]
        | some d => rfl
      · simp only [cut, fgts_agg, List.map_take, List.map_drop]
  case build z ps =>
    refine ⟨trivial, ?_⟩
    simp only [act] at h ⊢
    obtain ⟨φ1, φ2, out, h1, h2, h3⟩ := fillParts_fgts ks ev ps z
    rw [closL_fgts ks hfg] at h2
    rw [h2] at h
    rw [h1]
    cases h
    exact ⟨_, _, rfl, h3 hφ, .inl ⟨_, rfl, by rw [fgts_agg]⟩⟩
  case bslice sz z ps =>
    refine ⟨trivial, ?_⟩
    simp only [act] at h ⊢
    split at h
    · rename_i φ1 es h1
      cases h
      obtain ⟨φ2, e1, e2⟩ := fillRows_fgts ks ev ps z h1 hφ
      rw [e1]
      exact ⟨_, _, rfl, e2, .inr ⟨_, _, rfl, rfl⟩⟩
    · cases h
  case len x =>
    simp only [vchk] at hl ⊢
    simp only [act] at h ⊢
    cases hd : (ev x).forgets ks <;> rw [hd] at hl h <;> try (exact hl.elim)
    all_goals
      have hx := fgts_leaf rfl hd
      rw [hx]
      cases h
      exact ⟨trivial, _, _, rfl, trivial, .inl ⟨_, rfl, by rw [fgts_int]⟩⟩
  case mks sz bytes z n m =>
    refine ⟨trivial, ?_⟩
    simp only [act] at h ⊢
    split at h
    · rename_i e1 e2
      rw [fgts_leaf rfl e1, fgts_leaf rfl e2]
      cases h
      exact ⟨_, _, rfl, hφ, .inr ⟨_, _, rfl, rfl⟩⟩
    · cases h
/-! ### Rows that go over, and what goes ahead of that -/
def Went (ks : List Nat) (j : Nat) (ob : Ob) (s s1 : St) : Prop := s1 = ⟨(forgetLs ks s.tm).set j (.row j), obPut j ob (dropObs ks s.ob)⟩

section
variable {T : Tb} {s s1 s2 : St} {o x : IOper} {ks : List Nat} {j : Nat} {ob : Ob}

theorem Went.get (h : Went ks j ob s s1) {i : Nat} (hi : i ≠ j) : s1.get i = (s.get i).forgets ks := by
  subst h
  simp only [St.get, gtO_eq, List.getD, List.getElem?_set_ne (Ne.symm hi), forgetLs_map, List.getElem?_map]
  cases s.tm[i]? with
  | none => simp [fgts_any]
  | some d => rfl
theorem Went.lk (h : Went ks j ob s s1) (i : Nat) : s1.lk i = if i = j then some ob else if ks.contains i = true then none else (s.lk i).map (Ob.forgets ks) := by
  subst h
  simp only [St.lk, lk_put, lk_dropObs]

theorem gusE_of {ev ev' : Opd → D} : ∀ {l : List Opd}, (∀ x ∈ l, (ev x).gu = (ev' x).gu) → gusE ev l → gusE ev' l
  | [], _, _ => trivial
  | x :: r, h, hg => by
    simp only [gusE] at hg ⊢
    exact ⟨by rw [← h x (by simp)]; exact hg.1, gusE_of (fun y hy => h y (by simp [hy])) hg.2⟩
theorem opE_fg {ev : Opd → D} {lk : Nat → Option Ob} {op : IOp} (h : op.fg = true) : opE T ev lk op = match act T op (fun x => (ev x).un) lk with
    | none => none
    | some (φ, e) => some (gusE ev op.opds ∧ φ, e) := by
  cases op <;> first | rfl | (simp [IOp.fg] at h)

theorem Went.ev (h : Went ks j ob s s1) (hn : o.op.opds.all Opd.nog = true) (hok : o.ok = true) (hf : o.free (some j) = true) : ∀ y ∈ o.op.opds, y.ev T s1 = (y.ev T s).forgets ks := by
  intro y hy
  rw [List.all_eq_true] at hn
  simp only [IOper.ok, List.all_eq_true] at hok
  cases y with
  | t i => exact h.get fun e => (free_spec hf).1 (e ▸ looks_opd hy)
  | c d => exact (clos_fgts ks (hok _ hy)).symm
  | g i => exact absurd (hn _ hy) (by simp [Opd.nog])

theorem ahead (hW : Went ks j ob s s1) (hob : ∀ cs, ob ≠ .box cs) (hfg : o.op.fg = true) (hg : o.guard = none) (hn : o.op.opds.all Opd.nog = true) (hok : o.ok = true) (hf : o.free (some j) = true) (hks : ∀ k ∈ ks, o.dst ≠ some k)
    (hl : lchk T s1 o.op) {ψ : Prop} {e' : Eff} (hE : opE T (fun y => y.ev T s1) s1.lk o.op = some (ψ, e')) (hψ : ψ) (hA : applyE s1 o.dst none true e' = some s2) :
    lchk T s o.op ∧ ∃ ψ0 e sE, opE T (fun y => y.ev T s) s.lk o.op = some (ψ0, e) ∧ ψ0 ∧ applyE s o.dst none true e = some sE ∧ lkLe s.lk sE.lk ∧ sE.lk j = s.lk j ∧ (∀ i, o.dst ≠ some i → sE.get i = s.get i) ∧ ∃ s2', Went ks j ob sE s2' ∧ St.eqv s2 s2' := by
  have hev := hW.ev (T := T) hn hok hf
  have hun : ∀ y ∈ o.op.opds, (y.ev T s1).un = ((y.ev T s).un).forgets ks := fun y hy => by rw [hev y hy, (fgts_un ks _).1]
  rw [opE_fg hfg] at hE
  rw [act_congr (ev' := fun y => ((y.ev T s).un).forgets ks) hun] at hE
  rw [lchk_v, vchk_congr (ev' := fun y => ((y.ev T s).un).forgets ks) hun] at hl
  cases ha : act T o.op (fun y => ((y.ev T s).un).forgets ks) s1.lk with
  | none => rw [ha] at hE; cases hE
  | some p =>
    obtain ⟨φ, e1⟩ := p
    rw [ha] at hE
    cases hE
    have hdj : o.dst ≠ some j := (free_spec hf).2
    obtain ⟨hv, φ0, e, h1, h2, h3⟩ := fg_act (lk := s.lk) hfg (fun i cs hi => by
      rw [hW.lk] at hi
      split at hi
      · cases hi; exact absurd rfl (hob cs)
      · split at hi
        · cases hi
        · cases hs : s.lk i with
          | none => rw [hs] at hi; cases hi
          | some o1 =>
            rw [hs] at hi
            cases o1 <;> simp only [Option.map_some, Ob.forgets, Option.some.injEq, Ob.box.injEq] at hi <;> try (cases hi; done)
            exact ⟨_, rfl, by rw [← hi, forgetLs_map]⟩) hl ha hψ.2
    refine ⟨by rw [lchk_v]; exact hv, gusE (fun y => y.ev T s) o.op.opds ∧ φ0, e, ?_⟩
    rw [opE_fg hfg, h1]
    have hgs : gusE (fun y => y.ev T s) o.op.opds := gusE_of (fun y hy => by rw [hev y hy, (fgts_un ks _).2]) hψ.1
    have hset : ∀ (d : D) (tm : List D), setO o.dst (d.forgets ks) ((forgetLs ks tm).set j (.row j)) = (forgetLs ks (setO o.dst d tm)).set j (.row j) := by
      intro d tm
      cases hd : o.dst with
      | none => rfl
      | some q =>
        have : q ≠ j := fun e => hdj (by rw [hd, e])
        simp only [setO, forgetLs_map, List.map_set]
        exact List.set_comm _ _ (Ne.symm this)
    rcases h3 with ⟨d, rfl, rfl⟩ | ⟨sz, es, rfl, rfl⟩
    · rw [val_form] at hA
      refine ⟨_, rfl, ⟨hgs, h2⟩, val_form _ _ _ _ _, lkLe.refl _, rfl, fun i hi => ?_, _, rfl, ?_⟩
      · cases hd : o.dst with
        | none => rfl
        | some q =>
          have : q ≠ i := fun e => hi (by rw [hd, e])
          simp [St.get, gtO_eq, setO, List.getElem?_set_ne this]
      · cases hA
        subst hW
        exact ⟨hset d s.tm, rfl⟩
    · simp only [applyE] at hA ⊢
      cases hd : o.dst with
      | none => rw [hd] at hA; cases hA
      | some q =>
        rw [hd] at hA hset hks
        simp only at hA ⊢
        split at hA
        · cases hA
        · rename_i hq
          cases hA
          have hqj : q ≠ j := fun e => hdj (by rw [hd, e])
          have hqk : ks.contains q = false := by
            cases hc : ks.contains q with
            | false => rfl
            | true => exact absurd rfl (hks q (by simpa using hc))
          have hsq : s.lk q = none := by
            have : s1.lk q = none := by simpa using (not_or.1 hq).1
            rw [hW.lk, if_neg hqj, hqk] at this
            simpa using this
          have hq' : ¬((s.lk q).isSome = true ∨ baseN ≤ q) := by
            rw [hsq]; simpa using (not_or.1 hq).2
          refine ⟨_, trivial, ⟨hgs, h2⟩, if_neg hq', fun i o1 hi => ?_, ?_, fun i hi => ?_, _, rfl, ?_, ?_⟩
          · rw [set_lk, lk_obPut]
            simp only
            split
            · rename_i e; subst e; rw [hsq] at hi; cases hi
            · exact hi
          · rw [set_lk, lk_obPut]; simp only [if_neg (Ne.symm hqj)]; rfl
          · have : q ≠ i := fun e => hi (by rw [e])
            simp [St.get, St.set, stO_eq, gtO_eq, List.getElem?_set_ne this]
          · subst hW
            have := hset (.row q) s.tm
            rw [fgts_row, if_neg (by rw [hqk]; simp)] at this
            simpa only [setO, St.set, stO_eq, Bool.false_eq_true, if_false] using this
          · funext i
            rw [set_lk, lk_obPut]
            show _ = (St.mk _ _).lk i
            simp only [St.lk, lk_put, lk_dropObs, set_ob]
            have h1 := hW.lk i
            simp only [St.lk] at h1
            rw [h1]
            by_cases hiq : i = q
            · subst hiq
              simp only [if_pos, if_neg hqj, hqk, Bool.false_eq_true, if_false, Option.map_some, Ob.forgets]
            · simp only [if_neg hiq]

def IOper.isM (o : IOper) : Bool :=
  match o.op with
  | .append _ _ x _ => !isNl x
  | op => op.isB

theorem app_act {ev : Opd → D} {lk : Nat → Option Ob} {sz b : Nat} {x y : Opd} (hx : ∀ k z lo n cp, ev x ≠ .vw k z lo n cp) {φ : Prop} {e : Eff} (h : act T (.append sz b x y) ev lk = some (φ, e)) :
    ∃ ob, (∀ cs, ob ≠ .box cs) ∧ (e = .mv none ob ∨ (∃ k, e = .mv (some k) ob ∧ ev x = .row k) ∨ ∃ k k2, e = .mv2 k k2 ob ∧ ev x = .row k ∧ ev y = .row k2) ∧ ∀ lk', lkLe lk lk' → act T (.append sz b x y) ev lk' = some (φ, e) := by
  simp only [act] at h
  cases hn : newsOf sz lk (ev y) with
  | some ns =>
    rw [hn] at h
    cases hd : ev x <;> rw [hd] at h <;> try (cases h; done)
    case nl z =>
      cases h
      exact ⟨_, by simp, .inl rfl, fun lk' hl => by simp only [act, hd, newsOf_mono hl hn]⟩
    case row k =>
      simp only at h
      cases hk : lk k with
      | none => rw [hk] at h; cases h
      | some o1 =>
        rw [hk] at h
        cases o1 <;> try (cases h; done)
        all_goals
          cases h
          exact ⟨_, by simp, .inr (.inl ⟨_, rfl, rfl⟩), fun lk' hl => by simp only [act, hd, newsOf_mono hl hn, hl _ _ hk]⟩
    case vw k z lo n cp => exact absurd hd (hx _ _ _ _ _)
  | none =>
    rw [hn] at h
    cases hd : ev x <;> rw [hd] at h <;> try (cases h; done)
    case row k =>
      simp only at h
      cases hy : ev y <;> cases hk : lk k <;> rw [hy, hk] at h <;> try (cases h; done)
      all_goals (rename_i o1; cases o1 <;> try (cases h; done))
      rename_i k2 sz' es
      simp only at h
      cases hk2 : lk k2 with
      | none => rw [hk2] at h; cases h
      | some o2 =>
        rw [hk2] at h
        cases o2 <;> try (cases h; done)
        cases h
        exact ⟨_, by simp, .inr (.inr ⟨_, _, rfl, rfl, rfl⟩), fun lk' hl => by simp only [act, hd, hy, newsOf, hl _ _ hk, hl _ _ hk2]⟩
    case vw k z lo n cp => exact absurd hd (hx _ _ _ _ _)

theorem mstep_form {r : List IOper} (hM : o.isM = true) (hg : o.guard = none) (hk : mchk T s o r) {φ : Prop} (h : mstep T s o = some (φ, s1)) (hφ : φ) :
    ∃ ks j ob, o.dst = some j ∧ (∀ cs, ob ≠ .box cs) ∧ (∀ k ∈ ks, ∀ p ∈ r, p.dst ≠ some k) ∧ Went ks j ob s s1 ∧
      ∀ s', (∀ i ∈ o.looks, s'.get i = s.get i) → lkLe s.lk s'.lk → s'.lk j = s.lk j → ∃ φ' s1', mstep T s' o = some (φ', s1') ∧ φ' ∧ Went ks j ob s' s1' := by
  have hgone : ∀ {x : Opd} {k : Nat}, kchk T s x r → (x.ev T s).un = .row k → ∀ p ∈ r, p.dst ≠ some k := by
    intro x k hc hx p hp
    unfold kchk at hc
    rw [hx] at hc
    have := List.all_eq_true.1 hc p hp
    simpa using this
  by_cases hB : o.op.isB = true
  · unfold mstep at h
    rw [if_pos hB] at h
    split at h
    · rename_i z zs i x hop
      split at h
      · rename_i n j hx hj
        split at h
        · rename_i sz es hn
          split at h
          · cases h
          · rename_i hc
            cases h
            refine ⟨[n], j, .rws 1 [[.sub sz es]], hj, by simp, ?_, ?_, ?_⟩
            · intro k hk' p hp
              simp only [List.mem_singleton] at hk'
              subst hk'
              unfold mchk at hk
              rw [hop] at hk
              exact hgone hk hx p hp
            · simp only [Went, St.set, stO_eq, forgetLs, dropObs]
            · intro s' hget hle hlj
              have hev : x.ev T s' = x.ev T s := ev_same (T := T) hget x (by rw [hop]; simp [IOp.opds])
              refine ⟨(x.ev T s).gu = true, ⟨(forgetLs [n] s'.tm).set j (.row j), obPut j (.rws 1 [[.sub sz es]]) (dropObs [n] s'.ob)⟩, ?_, hφ, rfl⟩
              unfold mstep
              rw [if_pos hB, hop]
              simp only [hev, hx, hj, hle _ _ hn, hlj]
              rw [if_neg hc]
              simp only [St.set, stO_eq, forgetLs, dropObs]
        · cases h
      · cases h
    · cases h
  · unfold IOper.isM at hM
    unfold mstep at h
    rw [if_neg hB] at h
    split at hM
    · rename_i sz b x y hop
      unfold mchk at hk
      rw [hop] at hk
      obtain ⟨G, ψ, e, rfl, hG, hE, hA⟩ := istep_inv h
      rw [hg] at hG hA
      cases hG
      rw [hop] at hE
      simp only [opE] at hE
      split at hE
      · cases hE
      · rename_i φ1 e1 ha
        cases hE
        have hx : ∀ k z lo n cp, (x.ev T s).un ≠ .vw k z lo n cp := by
          intro k z lo n cp e
          have := hk.1
          unfold kchk at this
          rw [e] at this
          exact this
        obtain ⟨ob, h1, h2, h3⟩ := app_act hx ha
        have again : ∀ s', (∀ i ∈ o.looks, s'.get i = s.get i) → lkLe s.lk s'.lk → ∀ s1', applyE s' o.dst none true e = some s1' → ∃ φ' s1'', mstep T s' o = some (φ', s1'') ∧ φ' ∧ s1'' = s1' := by
          intro s' hget hle s1' hA'
          have hev := ev_same (T := T) hget
          refine ⟨true = true → (gusE (fun y => y.ev T s) (IOp.append sz b x y).opds ∧ φ1), s1', ?_, fun _ => hφ rfl, rfl⟩
          unfold mstep
          rw [if_neg hB]
          refine istep_mk (by rw [hg]; rfl) ?_ (by rw [hg]; exact hA')
          rw [opE_congr hev, hop]
          simp only [opE, h3 _ hle]
        cases hd : o.dst with
        | none => rw [hd] at hA; rcases h2 with rfl | ⟨k, rfl, _⟩ | ⟨k, k2, rfl, _⟩ <;> simp [applyE] at hA
        | some j =>
          rw [hd] at hA again
          rcases h2 with rfl | ⟨k, rfl, hxk⟩ | ⟨k, k2, rfl, hxk, hyk⟩
          · simp only [applyE] at hA
            split at hA
            · cases hA
            · rename_i hc
              cases hA
              refine ⟨[], j, ob, rfl, h1, by simp, by simp only [Went, St.set, stO_eq, forgetLs, dropObs], fun s' hget hle hlj => ?_⟩
              obtain ⟨φ', s1'', q1, q2, q3⟩ := again s' hget hle _ (by simp only [applyE]; rw [hlj, if_neg hc])
              exact ⟨φ', s1'', q1, q2, by rw [q3]; simp only [Went, St.set, stO_eq, forgetLs, dropObs]⟩
          · simp only [applyE] at hA
            split at hA
            · cases hA
            · rename_i hc
              cases hA
              refine ⟨[k], j, ob, rfl, h1, fun k' hk' p hp => ?_, by simp only [Went, St.set, stO_eq, forgetLs, dropObs], fun s' hget hle hlj => ?_⟩
              · simp only [List.mem_singleton] at hk'
                subst hk'
                exact hgone hk.1 hxk p hp
              · obtain ⟨φ', s1'', q1, q2, q3⟩ := again s' hget hle _ (by simp only [applyE]; rw [hlj, if_neg hc])
                exact ⟨φ', s1'', q1, q2, by rw [q3]; simp only [Went, St.set, stO_eq, forgetLs, dropObs]⟩
          · simp only [applyE] at hA
            split at hA
            · cases hA
            · rename_i hc
              cases hA
              refine ⟨[k2, k], j, ob, rfl, h1, fun k' hk' p hp => ?_, by simp only [Went, St.set, stO_eq, forgetLs, dropObs], fun s' hget hle hlj => ?_⟩
              · simp only [List.mem_cons, List.mem_nil_iff, or_false] at hk'
                rcases hk' with rfl | rfl
                · exact hgone hk.2 hyk p hp
                · exact hgone hk.1 hxk p hp
              · obtain ⟨φ', s1'', q1, q2, q3⟩ := again s' hget hle _ (by simp only [applyE]; rw [hlj, if_neg hc])
                exact ⟨φ', s1'', q1, q2, by rw [q3]; simp only [Went, St.set, stO_eq, forgetLs, dropObs]⟩
    · exact absurd hM hB

/-! ### Orders -/
def okPM (x o : IOper) : Bool := (okP x o && !x.op.isB && !o.op.isB) || (x.isM && o.op.fg && !o.op.isB && o.op.opds.all Opd.nog && o.ok && o.free x.dst && x.free o.dst)

theorem kchk_sub {t : St} {y : Opd} {r r' : List IOper} (hev : y.ev T t = y.ev T s) (hr : ∀ p ∈ r', p ∈ r) (h : kchk T s y r) : kchk T t y r' := by
  unfold kchk at h ⊢
  rw [hev]
  split at h
  · rw [List.all_eq_true] at h ⊢
    exact fun p hp => h p (hr p hp)
  · exact h
  · trivial
theorem mchk_sub {t : St} {r r' : List IOper} (hev : ∀ y ∈ x.op.opds, y.ev T t = y.ev T s) (hr : ∀ p ∈ r', p ∈ r) (h : mchk T s x r) : mchk T t x r' := by
  unfold mchk at h ⊢
  split at h
  · rename_i hop
    rw [hop] at hev
    exact ⟨kchk_sub (hev _ (by simp [IOp.opds])) hr h.1, kchk_sub (hev _ (by simp [IOp.opds])) hr h.2⟩
  · rename_i hop
    rw [hop] at hev
    exact kchk_sub (hev _ (by simp [IOp.opds])) hr h
  · rw [lchk_v] at h ⊢
    rw [vchk_congr fun y hy => by rw [hev y hy]]
    exact h
theorem mchk_l {r : List IOper} (h : mchk T s x r) : lchk T s x.op := by
  unfold mchk at h
  split at h
  · rename_i hop; rw [hop]; trivial
  · rename_i hop; rw [hop]; trivial
  · exact h
theorem mstep_eqv {t s' : St} (h : St.eqv s t) {φ : Prop} (hs : mstep T s o = some (φ, s')) : ∃ t', mstep T t o = some (φ, t') ∧ St.eqv s' t' := by
  unfold mstep at hs ⊢
  split at hs
  · rename_i hB
    rw [if_pos hB]
    split at hs
    · rename_i z zs i x hop
      rw [← ev_tm (T := T) h.1, ← h.2]
      split at hs
      · rename_i n j hx hj
        split at hs
        · rename_i sz es hn
          split at hs
          · cases hs
          · rename_i hc
            cases hs
            rw [if_neg hc]
            refine ⟨_, rfl, ?_, ?_⟩
            · simp only [set_tm, h.1]
            · have hk : ∀ k, List.lookup k s.ob = List.lookup k t.ob := fun k => by have := congrFun h.2 k; exact this
              simp only [set_lk, lk_obPut, lk_forget, lk_del, hk]
        · cases hs
      · cases hs
    · cases hs
  · rename_i hB
    rw [if_neg hB]
    exact istep_eqv h hs
theorem VCopsM_eqv {Q : St → Prop} (hQ : Closed Q) : ∀ {l : List IOper} {s t : St}, St.eqv s t → VCopsM T l Q s → VCopsM T l Q t
  | [], s, t, h, hv => hQ s t h hv
  | o :: r, s, t, h, hv => by
    simp only [VCopsM] at hv ⊢
    refine ⟨mchk_sub (fun y _ => (ev_tm h.1 y).symm) (fun _ h => h) hv.1, ?_⟩
    cases hs : mstep T s o with
    | none => rw [hs] at hv; exact hv.2.elim
    | some p =>
      obtain ⟨φ, s'⟩ := p
      rw [hs] at hv
      obtain ⟨t', h1, h2⟩ := mstep_eqv h hs
      rw [h1]
      exact ⟨hv.2.1, VCopsM_eqv hQ h2 hv.2.2⟩
theorem VCopsM_mono {Q Q' : St → Prop} (hQ : ∀ s, Q s → Q' s) : ∀ {l : List IOper} {s : St}, VCopsM T l Q s → VCopsM T l Q' s
  | [], s, hv => hQ s hv
  | o :: r, s, hv => by
    simp only [VCopsM] at hv ⊢
    refine ⟨hv.1, ?_⟩
    cases hs : mstep T s o with
    | none => rw [hs] at hv; exact hv.2.elim
    | some p =>
      obtain ⟨φ, s'⟩ := p
      rw [hs] at hv
      exact ⟨hv.2.1, VCopsM_mono hQ hv.2.2⟩

def LvO (T : Tb) (s : St) (o : IOper) : Prop := ∀ y ∈ o.op.opds, (y.ev T s).gu = true → (y.ev T s).un.lv s.lk = true

theorem pullM {Q : St → Prop} (hQ : Closed Q) {L : List IOper} (hg : o.guard = none) (hB : o.op.isB = false) : ∀ {R : List IOper} {s : St}, (∀ x ∈ R, okPM x o = true ∧ x.guard = none) → LvO T s o → VCopsM T (R ++ o :: L) Q s →
    ∃ ψ e sE, lchk T s o.op ∧ opE T (fun y => y.ev T s) s.lk o.op = some (ψ, e) ∧ ψ ∧ applyE s o.dst none true e = some sE ∧ VCopsM T (R ++ L) Q sE
  | [], s, _, _, h => by
    simp only [List.nil_append, VCopsM] at h
    obtain ⟨hc, h⟩ := h
    cases hs : mstep T s o with
    | none => rw [hs] at h; exact h.elim
    | some p =>
      obtain ⟨φ, s1⟩ := p
      rw [hs] at h
      unfold mstep at hs
      rw [if_neg (by rw [hB]; simp)] at hs
      obtain ⟨G, ψ, e, rfl, h1, h2, h3⟩ := istep_inv hs
      rw [hg] at h1 h3
      cases h1
      exact ⟨ψ, e, s1, mchk_l hc, h2, h.1 rfl, h3, h.2⟩
  | x :: R, s, hp, hlv, h => by
    simp only [List.cons_append, VCopsM] at h
    obtain ⟨hc, h⟩ := h
    cases hs : mstep T s x with
    | none => rw [hs] at h; exact h.elim
    | some p =>
      obtain ⟨φ, s1⟩ := p
      rw [hs] at h
      obtain ⟨hpx, hxg⟩ := hp x (by simp)
      have hp' : ∀ y ∈ R, okPM y o = true ∧ y.guard = none := fun y hy => hp y (by simp [hy])
      have hsub : ∀ p ∈ R ++ L, p ∈ R ++ o :: L := fun p hp => by
        rcases List.mem_append.1 hp with h | h
        · exact List.mem_append_left _ h
        · exact List.mem_append_right _ (by simp [h])
      unfold okPM at hpx
      simp only [Bool.or_eq_true, Bool.and_eq_true, Bool.not_eq_true'] at hpx
      rcases hpx with ⟨⟨hok, hxB⟩, _⟩ | ⟨⟨⟨⟨⟨⟨hM, hfg⟩, _⟩, hn⟩, hoo⟩, hf⟩, hxf⟩
      · have hsi := hs
        unfold mstep at hsi
        rw [if_neg (by rw [hxB]; simp)] at hsi
        have hok' := hok
        unfold okP at hok'
        simp only [Bool.and_eq_true] at hok'
        obtain ⟨⟨q1, q2⟩, q3⟩ := hok'
        have hmo : o.op.cl ≠ .mv := by intro h; rw [h] at q1; cases hc : x.op.cl <;> rw [hc] at q1 <;> cases q1
        have hmx : x.op.cl ≠ .mv := by intro h; rw [h] at q1; cases hc : o.op.cl <;> rw [hc] at q1 <;> cases q1
        obtain ⟨Gx, ψx, ex, rfl, gx1, gx2, gx3⟩ := istep_inv hsi
        have hex := effOK hmx gx2
        have hget : ∀ i ∈ o.looks, s1.get i = s.get i := fun i hi => apply_get hex gx3 i fun hd => by rw [hd] at q2; exact (free_spec q2).1 hi
        have hev := ev_same (T := T) hget
        have hsome : ∀ i, (s.lk i).isSome = true → (s1.lk i).isSome = true := by
          intro i hi
          by_cases hst : x.op.cl = .store
          · rw [hst] at hex
            obtain ⟨k, ob, rfl⟩ := hex
            obtain ⟨_, _, rfl⟩ := (put_form _ _ _ _ _).1 gx3
            rw [lk_obPut]
            simp only
            split
            · rfl
            · exact hi
          · have hcx : x.op.cl = .pure ∨ x.op.cl = .read ∨ x.op.cl = .new := by cases hcx : x.op.cl <;> rw [hcx] at hst hmx <;> simp at hst hmx ⊢
            rw [(apply_lk hcx hex gx3).isSome hi]; exact hi
        obtain ⟨ψ, e, sE1, k1, k2, k3, k4, k5⟩ := pullM hQ hg hB hp' (fun y hy hgy => by
          rw [hev y hy] at hgy ⊢
          exact lv_some hsome _ (hlv y hy hgy)) h.2
        have he := effOK hmo k2
        rw [← hg] at k4
        obtain ⟨sE, a1, sE1', a2, a3⟩ := diamond hsi hok he k4
        rw [hg] at a1
        refine ⟨ψ, e, sE, ?_, ?_, k3, a1, ?_⟩
        · rw [lchk_v] at k1 ⊢
          rw [vchk_congr (ev := fun y => (y.ev T s).un) (ev' := fun y => (y.ev T s1).un) fun y hy => by rw [hev y hy]]
          exact k1
        · have k2' := k2
          rw [opE_congr hev] at k2
          by_cases hpu : o.op.cl = .pure
          · rw [opE_pure hpu (lk' := s1.lk)]; exact k2
          · have hgu := opE_gus hpu k2' k3
            by_cases hst : o.op.cl = .store
            · have hpx : x.op.cl = .pure := by rw [hst] at q1; cases hcx : x.op.cl <;> rw [hcx] at q1 <;> first | rfl | cases q1
              rw [hpx] at hex
              obtain ⟨d, rfl⟩ := hex
              rw [val_form] at gx3
              cases gx3
              exact k2
            · have hcx : x.op.cl = .pure ∨ x.op.cl = .read ∨ x.op.cl = .new := by
                cases hcx : x.op.cl <;> cases hco : o.op.cl <;> rw [hcx, hco] at q1 <;> rw [hco] at hpu hst <;> first | (cases q1; done) | (exact absurd rfl hpu) | (exact absurd rfl hst) | simp
              rw [← opE_lv (apply_lk hcx hex gx3) hst hmo fun y hy => hlv y hy (by have := gusE_mem hgu y hy; rw [hev y hy] at this; exact this)]
              exact k2
        · simp only [List.cons_append, VCopsM]
          have hgx : ∀ i ∈ x.looks, sE.get i = s.get i := fun i hi => apply_get he a1 i fun hd => by rw [hd] at q3; exact (free_spec q3).1 hi
          refine ⟨mchk_sub (ev_same (T := T) hgx) hsub hc, ?_⟩
          unfold mstep
          rw [if_neg (by rw [hxB]; simp), a2]
          exact ⟨h.1, VCopsM_eqv hQ a3 k5⟩
      · obtain ⟨ks, j, ob, f1, f2, f3, f4, f5⟩ := mstep_form hM hxg hc hs h.1
        rw [f1] at hf
        have hev := f4.ev (T := T) hn hoo hf
        obtain ⟨ψ, e, s2, k1, k2, k3, k4, k5⟩ := pullM hQ hg hB hp' (fun y hy hgy => by
          rw [hev y hy] at hgy ⊢
          rw [(fgts_un ks _).2] at hgy
          rw [(fgts_un ks _).1]
          refine lv_fgts (fun i hi hsi => ?_) (hlv y hy hgy)
          rw [f4.lk]
          split
          · rfl
          · rw [if_neg (by simpa using hi)]; simpa using hsi) h.2
        obtain ⟨b1, ψ0, e0, sE, b2, b3, b4, b5, b6, b7, s2', b8, b9⟩ := ahead f4 f2 hfg hg hn hoo hf (fun k hk => f3 k hk o (by simp)) k1 k2 k3 k4
        refine ⟨ψ0, e0, sE, b1, b2, b3, b4, ?_⟩
        simp only [List.cons_append, VCopsM]
        have hgx : ∀ i ∈ x.looks, sE.get i = s.get i := fun i hi => b7 i fun hd => by rw [hd] at hxf; exact (free_spec hxf).1 hi
        obtain ⟨φ', s1', c1, c2, c3⟩ := f5 sE hgx b5 b6
        refine ⟨mchk_sub (ev_same (T := T) hgx) hsub hc, ?_⟩
        rw [c1]
        have : s1' = s2' := c3.trans b8.symm
        rw [this]
        exact ⟨c2, VCopsM_eqv hQ b9 k5⟩
end

section
variable {P : Program} {kf : Nat → Nat} {T : Tb} {X : Nat → Prop} {Y : Env} {w0 w : World} {c : Cx} {s : St} {a : Act} {o : IOper}

theorem cOp_bslice {op : Op} {U : TypeId} {sz : Nat} {zs : List (List D)} {ps : List (Nat × Opd)} (h : cOp P kf op U = some (.bslice sz zs ps)) : ∃ t n parts e z, op = .buildSlice t n parts ∧ P.underlying t = some (.slice e) ∧ zeroT P e = some z ∧ sizeT P e = some sz ∧ cRows P e parts.toList = some ps ∧ z.length = sz ∧ 0 < sz ∧ 0 < n ∧ n * sz ≤ 16777216 ∧ zs = List.replicate n z := by
  cases op <;> simp only [cOp] at h
  case buildSlice t n parts =>
    split at h
    · rename_i e hu
      split at h
      · rename_i z sz' ps' hz hsz hq
        split at h
        · cases h
        · split at h
          · rename_i hc
            cases h
            exact ⟨t, n, parts, e, z, rfl, hu, hz, hsz, hq, hc.1, hc.2.1, hc.2.2.1, hc.2.2.2, rfl⟩
          · cases h
      · cases h
    · cases h
  case call cl =>
    unfold cCall at h
    split at h
    · split at h
      · simp only [Option.map_eq_some_iff] at h
        obtain ⟨_, _, h⟩ := h
        cases h
      · split at h
        · simp only [Option.map_eq_some_iff] at h; obtain ⟨_, _, h⟩ := h; cases h
        · simp only [Option.map_eq_some_iff] at h
          obtain ⟨_, _, h⟩ := h
          unfold callN at h
          split at h
          · unfold ovlOf at h; split at h <;> cases h
          · cases h
    · simp only [Option.map_eq_some_iff] at h
      obtain ⟨_, _, h⟩ := h
      cases h
    · unfold cBuiltin at h
      (repeat' (split at h)) <;> (first | (cases h; done) | (simp only [Option.map_eq_some_iff] at h; obtain ⟨_, _, h⟩ := h; cases h))
    · cases h
  all_goals (repeat' (split at h)) <;> (first | (cases h; done) | (simp only [Option.map_eq_some_iff] at h; obtain ⟨_, _, h⟩ := h; cases h))

theorem cOper_op {ops : Array Oper} {o : Oper} {io : IOper} (hc : cOper P kf ops o = some io) (hb : io.op ≠ .bad) : io.dst = o.dst ∧ guardSlot ops o.guard = some io.guard ∧ cOp P kf o.op o.type = some io.op := by
  obtain ⟨h1, h2, h3⟩ := cOper_spec hc
  exact ⟨h1, h2, h3.resolve_right hb⟩
theorem bslx_step (h : Sat T X Y w0 c s a w) {ops : Array Oper} {o : Oper} {io : IOper} (hc : cOper P kf ops o = some io) {sz : Nat} {z : List D} {x : Opd} (hop : io.op = .bslice sz [z] [(0, x)]) (hgd : io.guard = none) {φ : Prop} {s' : St} (hst : s.oneS sz io.dst (x.ev T s).un = some (φ, s')) (hgu : (x.ev T s).gu = true) (hφ : φ)
    {K : Act → World → Prop} {Q : Exit → Act → World → Prop} (hK : ∀ c' a' w', Sat T X Y w0 c' s' a' w' → K a' w') :
    if Region.wanted o (yielded ops a.tmps) = true then o.wp P a w K Q else K (a.put o.dst undef) w := by
  obtain ⟨hdst, hguard, hcop⟩ := cOper_op hc (by rw [hop]; simp)
  rw [hop] at hcop
  have hw := h.guard (G := true) hguard (by rw [hgd]; rfl)
  rw [hw]
  simp only [if_true]
  obtain ⟨t, n, parts, e, z', ho, hu, hz, hsz, hq, hzl, h0, hn, hmax, hzs⟩ := cOp_bslice hcop
  have hn1 : n = 1 := by
    have := congrArg List.length hzs
    simpa using this.symm
  subst hn1
  have hps : ∃ y, parts.toList = [(0, y)] ∧ cOpd P e y = some x := by
    match hp : parts.toList with
    | [] => rw [hp] at hq; simp [cRows] at hq
    | (i, y) :: r =>
      rw [hp] at hq
      simp only [cRows] at hq
      split at hq
      · rename_i y' l hy hl
        simp only [Option.some.injEq, List.cons.injEq, Prod.mk.injEq] at hq
        obtain ⟨⟨rfl, rfl⟩, rfl⟩ := hq
        match r, hl with
        | [], _ => exact ⟨y, rfl, hy⟩
        | (i2, y2) :: r2, hl =>
          simp only [cRows] at hl
          split at hl <;> cases hl
      · cases hq
  obtain ⟨y, hp, hy⟩ := hps
  unfold St.oneS at hst
  split at hst
  · rename_i k hk
    split at hst
    · cases hst
    · rename_i hlk
      cases hst
      simp only [not_or, Nat.not_le] at hlk
      obtain ⟨v, w', c', hr, hS⟩ := snd_bslx (P := P) h ho hp hu hz hsz hy hzl h0 (by simpa using hmax) hgu hφ.1 hφ.2 (k := k) (by rw [← hdst, hk]) (by simpa using hlk.1) hlk.2
      unfold Oper.wp
      rw [hr, Oper.upon_value]
      exact hK c' _ _ hS
  · cases hst

theorem msound (hT : TbOK P kf T) (h : Sat T X Y w0 c s a w) {ops : Array Oper} {oo : Oper} (hc : cOper P kf ops oo = some o) (hg : o.guard = none) {φ : Prop} {s' : St} (hst : mstep T s o = some (φ, s')) (hφ : φ)
    {K : Act → World → Prop} {Q : Exit → Act → World → Prop} (hK : ∀ c' a' w', Sat T X Y w0 c' s' a' w' → K a' w') :
    if Region.wanted oo (yielded ops a.tmps) = true then oo.wp P a w K Q else K (a.put oo.dst undef) w := by
  unfold mstep at hst
  split at hst
  · rename_i hB
    split at hst
    · rename_i z zs i x hop
      split at hst
      · rename_i n j hx hj
        split at hst
        · rename_i sz es hn
          split at hst
          · cases hst
          · rename_i hcc
            simp only [not_or, Nat.not_le, Decidable.not_not] at hcc
            obtain ⟨c1, c2, rfl, rfl⟩ := hcc
            cases hst
            have hj0 : s.lk j = none := by simpa using c1
            have hnj : n ≠ j := fun e => by rw [e, hj0] at hn; cases hn
            obtain ⟨zz, rfl⟩ : ∃ zz, zs = [zz] := by
              rw [hop] at hB
              unfold IOp.isB at hB
              split at hB
              · rename_i e; cases e; exact ⟨_, rfl⟩
              · cases hB
            refine bslx_step h hc hop hg (φ := ([D.row n] : List D).length = 1 ∧ ([D.row n] : List D).all D.cell' = true) (s' := St.set ⟨s.tm, obPut j (.rwh 1 [List.replicate 1 .any] 0 [.row n]) s.ob⟩ (some j) (.row j)) (by
              unfold St.oneS
              simp only [hj, hx, D.cells]
              rw [if_neg (by simp only [not_or, Nat.not_le]; exact ⟨c1, c2⟩)]) hφ ⟨rfl, rfl⟩ fun c' a' w' hS => ?_
            have hlk : ∀ i, (St.set ⟨s.tm, obPut j (.rwh 1 [List.replicate 1 .any] 0 [.row n]) s.ob⟩ (some j) (.row j)).lk i = if i = j then some (.rwh 1 [List.replicate 1 .any] 0 [.row n]) else s.lk i := fun i => by
              rw [set_lk, lk_obPut]; rfl
            obtain ⟨c2', s2, hS2, hq⟩ := Sat.vccx (k := j) (Q := fun t => St.eqv t (St.set ⟨forgetL n s.tm, obPut j (.rws 1 [[.sub sz es]]) (forgetO n (obDel n s.ob))⟩ (some j) (.row j))) [0] hS (by
              simp only [VCcx, hlk, if_pos, if_neg hnj, List.getElem?_cons_zero, hn]
              refine ⟨hnj, ?_⟩
              simp only [St.lk, lk_put, if_pos]
              refine ⟨by simp [List.set, forgetL, D.forget, D.cellS], ?_, ?_⟩
              · simp only [St.set, stO_eq, forgetL_map, List.map_set, D.forget, if_neg (Ne.symm hnj)]
              · funext i
                rw [set_lk]
                simp only [St.lk, lk_put, lk_forget, lk_del, set_ob]
                by_cases hi : i = j
                · subst hi; simp [List.set, forgetL, D.forget]
                · simp only [if_neg hi])
            exact hK c2' a' w' (hS2.eqv hq)
        · cases hst
      · cases hst
    · cases hst
  · exact step_sound hT h hc hst hφ hK

def okPiM (il : List IOper) (x y : Nat) : Prop := ∀ p q, il[x]? = some p → il[y]? = some q → okPM p q = true

theorem okPM_M {p q : IOper} (h : okPM p q = true) : q.isM = false := by
  unfold okPM at h
  simp only [Bool.or_eq_true, Bool.and_eq_true, Bool.not_eq_true'] at h
  unfold IOper.isM
  rcases h with ⟨⟨h, _⟩, hq⟩ | ⟨⟨⟨⟨⟨⟨_, hfg⟩, hq⟩, _⟩, _⟩, _⟩, _⟩
  · split
    · rename_i sz b x y hop
      unfold okP at h
      simp only [Bool.and_eq_true] at h
      have h1 := h.1.1
      rw [hop] at h1
      simp only [IOp.cl] at h1
      cases hx : isNl x with
      | true => rfl
      | false =>
        simp only [hx, Bool.false_eq_true, if_false] at h1
        generalize p.op.cl = pc at h1
        cases pc <;> simp [okCl] at h1
    · exact hq
  · split
    · rename_i hop
      rw [hop] at hfg
      simp [IOp.fg] at hfg
    · exact hq
theorem isB_M {q : IOper} (h : q.isM = false) : q.op.isB = false := by
  unfold IOper.isM at h
  split at h
  · rename_i hop; rw [hop]; rfl
  · exact h

theorem opsM (hT : TbOK P kf T) {ops : Array Oper} {il : List IOper} (hil : ∀ (i : Nat) (oo : Oper), ops[i]? = some oo → ∃ o, il[i]? = some o ∧ cOper P kf ops oo = some o) (hok : ∀ o ∈ il, o.ok = true) (hgn : ∀ o ∈ il, o.guard = none)
    {Qs : St → Prop} (hcl : Closed Qs) {Q : Exit → Act → World → Prop} (hQ : ∀ s c a w, Qs s → Sat T X Y w0 c s a w → Q .normal a w) :
    ∀ (π r : List Nat), π.Nodup → r.Nodup → (∀ i, i ∈ r ↔ i ∈ π) → (∀ i ∈ π, i < ops.size) → (∀ x y, r.idxOf x < r.idxOf y → π.idxOf y < π.idxOf x → okPiM il x y) →
    ∀ {s : St} {c : Cx} {a : Act} {w : World}, Sat T X Y w0 c s a w → VCopsM T (r.filterMap fun i => il[i]?) Qs s → wpOps P ops Q π a w
  | [], r, _, _, hm, _, _, s, c, a, w, h, hv => by
    have : r = [] := by
      cases r with
      | nil => rfl
      | cons i r => exact absurd ((hm i).1 (by simp)) (by simp)
    subst this
    exact hQ s c a w hv h
  | i :: π, r, hn, hr, hm, hlt, hH, s, c, a, w, h, hv => by
    obtain ⟨hi, hn'⟩ := List.nodup_cons.1 hn
    obtain ⟨R1, R2, rfl⟩ := List.append_of_mem ((hm i).2 (by simp))
    have hsz := hlt i (by simp)
    obtain ⟨o, ho, hco⟩ := hil i ops[i] (by simp [hsz])
    rw [List.nodup_append] at hr
    obtain ⟨hr1, hr2, hr3⟩ := hr
    obtain ⟨hi2, hr2⟩ := List.nodup_cons.1 hr2
    have hi1 : i ∉ R1 := fun hx => hr3 i hx i (by simp) rfl
    have hidx : ∀ x, x ≠ i → (R1 ++ i :: R2).idxOf x = if x ∈ R1 then R1.idxOf x else R2.idxOf x + 1 + R1.length := by
      intro x hx
      rw [List.idxOf_append]
      rw [idxOf_cons_ne hx]
    have hidxi : (R1 ++ i :: R2).idxOf i = R1.length := by rw [List.idxOf_append, if_neg hi1, List.idxOf_cons_self, Nat.zero_add]
    have hpi : ∀ x, x ≠ i → (i :: π).idxOf x = π.idxOf x + 1 := fun x hx => idxOf_cons_ne hx
    rw [List.filterMap_append, List.filterMap_cons, ho] at hv
    have hom := List.mem_of_getElem? ho
    have hpair : ∀ x ∈ R1.filterMap (fun i => il[i]?), okPM x o = true ∧ x.guard = none := fun x hx => by
      obtain ⟨j, hj, hjx⟩ := List.mem_filterMap.1 hx
      have hji : j ≠ i := fun e => hi1 (e ▸ hj)
      refine ⟨hH j i ?_ ?_ x o hjx ho, hgn x (List.mem_of_getElem? hjx)⟩
      · rw [hidx j hji, if_pos hj, hidxi]; exact List.idxOf_lt_length_iff.2 hj
      · rw [hpi j hji]; simp
    have key : ∀ sE, (∀ (K : Act → World → Prop), (∀ c' a' w', Sat T X Y w0 c' sE a' w' → K a' w') → if Region.wanted ops[i] (yielded ops a.tmps) = true then ops[i].wp P a w K Q else K (a.put ops[i].dst undef) w) → VCopsM T (R1.filterMap (fun i => il[i]?) ++ R2.filterMap (fun i => il[i]?)) Qs sE → wpOps P ops Q (i :: π) a w := by
      intro sE hstep h6
      rw [wpOps_cons]
      unfold wpOp
      have hoo : ops[i]? = some ops[i] := by simp [hsz]
      simp only [hoo]
      have := hstep (wpOps P ops Q π) fun c' a' w' hS => ?_
      · split
        · rename_i hw; rw [if_pos hw] at this; exact .inl this
        · rename_i hw; rw [if_neg hw] at this; exact this
      · refine opsM hT hil hok hgn hcl hQ π (R1 ++ R2) hn' (List.nodup_append.2 ⟨hr1, hr2, fun x hx y hy => hr3 x hx y (by simp [hy])⟩) (fun x => ?_) (fun x hx => hlt x (by simp [hx])) (fun x y hxy hyx => ?_) hS (by rw [List.filterMap_append]; exact h6)
        · have := hm x
          simp only [List.mem_append, List.mem_cons] at this ⊢
          by_cases hx : x = i
          · subst hx; simp [hi, hi1, hi2]
          · simpa [hx] using this
        · have hxm := idxOf_lt_mem hxy
          have hym := idxOf_lt_mem hyx
          have hxi : x ≠ i := fun e => by
            subst e
            rcases List.mem_append.1 hxm with hx | hx
            · exact hi1 hx
            · exact hi2 hx
          have hyi : y ≠ i := fun e => hi (e ▸ hym)
          refine hH x y ?_ ?_
          · rw [hidx x hxi, hidx y hyi]
            rw [List.idxOf_append, List.idxOf_append] at hxy
            have l1 : List.idxOf x R1 ≤ R1.length := List.idxOf_le_length
            have l2 : List.idxOf y R1 ≤ R1.length := List.idxOf_le_length
            by_cases q1 : x ∈ R1 <;> by_cases q2 : y ∈ R1 <;> simp only [q1, q2, if_true, if_false] at hxy ⊢ <;> omega
          · rw [hpi x hxi, hpi y hyi]; omega
    cases hM : o.isM with
    | true =>
      have hR : R1.filterMap (fun i => il[i]?) = [] := by
        cases hR : R1.filterMap (fun i => il[i]?) with
        | nil => rfl
        | cons x r => exact absurd (okPM_M (hpair x (by rw [hR]; simp)).1) (by rw [hM]; simp)
      rw [hR] at hv key
      simp only [List.nil_append, VCopsM] at hv key
      cases hs : mstep T s o with
      | none => rw [hs] at hv; exact hv.2.elim
      | some p =>
        obtain ⟨φ, s1⟩ := p
        rw [hs] at hv
        exact key s1 (fun K hK => msound hT h hco (hgn o hom) hs hv.2.1 hK) hv.2.2
    | false =>
      obtain ⟨ψ, e, sE, _, h2, h3, h4, h5⟩ := pullM hcl (hgn o hom) (isB_M hM) hpair (fun y hy hgy => h.opd_lv (by have := hok o hom; simp only [IOper.ok, List.all_eq_true] at this; exact this y hy) hgy) hv
      refine key sE (fun K hK => step_sound hT h hco (istep_mk (G := true) (by rw [hgn o hom]; rfl) h2 (by rw [hgn o hom]; exact h4)) (fun _ => h3) hK) h5

/-! ### A region that is drawn -/
def repM (A : List (List Nat)) (n : Nat) : List Nat → List Nat → List Nat
  | [], acc => acc ++ (List.range n).filter fun i => !acc.contains i
  | m :: r, acc => repM A n r (acc ++ (List.range n).filter fun i => (i == m || (A.getD m []).contains i) && !acc.contains i)
def goodM (A : List (List Nat)) (il : List IOper) : List Nat → Bool
  | [] => true
  | x :: r => r.all (fun y => (A.getD y []).contains x || match il[x]?, il[y]? with | some p, some q => okPM p q | _, _ => false) && goodM A il r
def cDrawnM (P : Program) (ops : Array Oper) (il : List IOper) : Option (List IOper) :=
  let F := afters ops
  let A := ancT F []
  let r := repM A il.length ((List.range il.length).filter fun i => match il[i]? with | some o => o.isM | none => false) []
  if P.follows .mixedOrders && fwdL 0 F && il.all IOper.ok && il.all (fun o => o.guard.isNone) && decide (il.length = ops.size) && nodupB r && r.all (fun i => decide (i < il.length)) && (List.range il.length).all (fun i => r.contains i) && goodM A il r then
    some (⟨none, none, .gsr⟩ :: r.filterMap fun i => il[i]?)
  else none
def cDrawnX (P : Program) (ops : Array Oper) (il : List IOper) : Option (List (List IOper)) :=
  match cDrawn P ops il with
  | some ls => some ls
  | none => (cDrawnM P ops il).map fun l => [l]

theorem goodM_spec {A : List (List Nat)} {il : List IOper} : ∀ {r : List Nat}, goodM A il r = true → ∀ x y, y ∈ r → r.idxOf x < r.idxOf y → x ∈ A.getD y [] ∨ okPiM il x y
  | [], _, x, y, hy, _ => by simp at hy
  | z :: r, h, x, y, hy, hxy => by
    simp only [goodM, Bool.and_eq_true, List.all_eq_true, Bool.or_eq_true, List.contains_eq_mem, decide_eq_true_eq] at h
    by_cases hyz : y = z
    · subst hyz; rw [List.idxOf_cons_self] at hxy; omega
    · have hy' : y ∈ r := by simpa [hyz] using hy
      by_cases hxz : x = z
      · subst hxz
        rcases h.1 y hy' with h | h
        · exact .inl h
        · refine .inr fun p q hp hq => ?_
          rw [hp, hq] at h
          exact h
      · rw [idxOf_cons_ne hxz, idxOf_cons_ne hyz] at hxy
        exact goodM_spec h.2 x y hy' (by omega)

theorem drawnX_sound (hT : TbOK P kf T) {id : Nat} {ops : Array Oper} {il : List IOper} (hil : ∀ (i : Nat) (oo : Oper), ops[i]? = some oo → ∃ o, il[i]? = some o ∧ cOper P kf ops oo = some o) {ls : List (List IOper)} (hc : cDrawnX P ops il = some ls)
    {Qs : St → Prop} {Q : Exit → Act → World → Prop} (hQ : ∀ s c a w, Qs s → Sat T X Y w0 c s a w → Q .normal a w) (h : Sat T X Y w0 c s a w) (hv : VCalt T Qs s ls) : (Code.region id ops true).wp P Q a w := by
  unfold cDrawnX at hc
  split at hc
  · rename_i ls' h1
    cases hc
    exact drawn_sound hT hil h1 hQ h hv
  · simp only [Option.map_eq_some_iff] at hc
    obtain ⟨l, hc, rfl⟩ := hc
    unfold cDrawnM at hc
    simp only at hc
    split at hc
    case isFalse => cases hc
    rename_i hchk
    generalize hr : repM _ _ _ _ = r at hc hchk
    cases hc
    simp only [Bool.and_eq_true, decide_eq_true_eq] at hchk
    obtain ⟨⟨⟨⟨⟨⟨⟨⟨h1, h2⟩, h3⟩, h4⟩, h5⟩, g1⟩, g2⟩, g3⟩, g4⟩ := hchk
    simp only [List.all_eq_true, decide_eq_true_eq, List.contains_eq_mem, List.mem_range] at g2 g3
    have hF : ∀ (i : Nat) (o : Oper), ops[i]? = some o → ∀ j, j ∈ (afters ops).getD i [] ↔ ∃ e ∈ o.after, Region.binds .any e = true ∧ e.on = j := by
      intro i o ho j
      have : (afters ops).getD i [] = (o.after.toList.filter fun e => Region.binds .any e).map (·.on) := by
        simp only [afters, List.getD, List.getElem?_map, Array.getElem?_toList, ho]; rfl
      rw [this]
      simp only [List.mem_map, List.mem_filter, Array.mem_toList_iff]
      constructor
      · rintro ⟨e, ⟨q1, q2⟩, q3⟩; exact ⟨e, q1, q2, q3⟩
      · rintro ⟨e, q1, q2, q3⟩; exact ⟨e, ⟨q1, q2⟩, q3⟩
    have hf : Fwd .any ops := by
      intro i o ho e he hb
      have hi : i < ops.size := (Array.getElem?_eq_some_iff.1 ho).1
      have hmem := (hF i o ho e.on).2 ⟨e, he, hb, rfl⟩
      have hget : (afters ops)[i]? = some ((afters ops).getD i []) := by
        simp [afters, List.getD, hi]
      have := fwdL_spec h2 i _ hget e.on hmem
      omega
    refine wp_region_draw fun t => ?_
    simp only [Region.schedule, h1, Bool.true_or, if_true]
    obtain ⟨p1, p2, p3⟩ := lin_all hf t
    generalize Region.linearise .any ops t = π at p1 p2 p3 ⊢
    have hA : ∀ i x, x ∈ (ancT (afters ops) []).getD i [] → bef π x i := by
      refine ancT_spec (fun i x hx => by simp at hx) fun i b hb j hj => ?_
      simp only [List.length_nil, Nat.zero_add]
      have hi : i < ops.size := by
        have := (List.getElem?_eq_some_iff.1 hb).1
        simpa [afters] using this
      obtain ⟨e, q1, q2, rfl⟩ := (hF i ops[i] (by simp [hi]) j).1 (by simpa [List.getD, hb] using hj)
      exact p3 i ops[i] (by simp [hi]) e q1 q2
    have hvr := VCalt_mem hv _ (List.mem_singleton.2 rfl)
    simp only [isMl, if_true, List.tail_cons] at hvr
    have hS : Sat T X Y w0 c s a { w with drawn := w.drawn + 1 } := h.world ⟨rfl, rfl, rfl, Nat.le_refl _, fun _ _ _ => rfl⟩
    have hmem : ∀ i, i ∈ r ↔ i ∈ π := fun i => ⟨fun hi => (p2 i).2 (by have := g2 i hi; omega), fun hi => g3 i (by have := (p2 i).1 hi; omega)⟩
    refine opsM (X := X) (Y := Y) (w0 := w0) hT hil (fun o ho => List.all_eq_true.1 h3 o ho) (fun o ho => by simpa using List.all_eq_true.1 h4 o ho) (Closed.cl Qs) (fun t c a w ⟨u, q1, q2⟩ hSat => hQ u c a w q2 (hSat.eqv q1.symm)) π r p1 (nodupB_spec g1) hmem (fun i hi => (p2 i).1 hi) (fun x y hxy hyx => ?_) hS (VCopsM_mono (fun s hs => ⟨s, St.eqv.refl s, hs⟩) hvr)
    have hy : y ∈ r := (hmem y).2 (idxOf_lt_mem hyx)
    rcases goodM_spec g4 x y hy hxy with q | q
    · have := hA y x q
      simp only [bef] at this
      omega
    · exact q
end
end Go.Vcg

namespace Go.Vcg
section
variable {P : Program} {kf : Nat → Nat} {T : Tb} {X : Nat → Prop} {Y : Env} {w0 w : World} {c : Cx} {s : St} {a : Act}

/-! ### A state for another -/
def Cx.ren (c : Cx) (σ : List (Nat × Option Nat)) (t : St) : Cx :=
  { ids := fun k => (sg σ k).bind c.ids, rv := fun k => match sg σ k with | some k' => c.rv k' | none => .slice none 0 0, live := fun k => (t.lk k).isSome, ow := fun b => match c.ow b with | some k0 => (t.ob.find? fun p => sg σ p.1 == some k0).map (·.1) | none => none }
theorem lookup_of_mem {k : Nat} {o : Ob} : ∀ {l : List (Nat × Ob)}, (k, o) ∈ l → (l.lookup k).isSome = true
  | [], h => by cases h
  | (j, q) :: l, h => by
    by_cases hj : k = j
    · simp [List.lookup, hj]
    · have h1 : (k == j) = false := by simpa using hj
      simp only [List.lookup, h1]
      rcases List.mem_cons.1 h with h | h
      · cases h; exact absurd rfl hj
      · exact lookup_of_mem h
theorem mem_of_lookup {k : Nat} {o : Ob} : ∀ {l : List (Nat × Ob)}, l.lookup k = some o → (k, o) ∈ l
  | [], h => by simp [List.lookup] at h
  | (j, q) :: l, h => by
    by_cases hj : k = j
    · subst hj; simp [List.lookup] at h; subst h; simp
    · have h1 : (k == j) = false := by simpa using hj
      simp only [List.lookup, h1] at h
      exact List.mem_cons_of_mem _ (mem_of_lookup h)
theorem ren_ow {σ : List (Nat × Option Nat)} {t : St} {b k : Nat} (h : (c.ren σ t).ow b = some k) : ∃ k0, c.ow b = some k0 ∧ sg σ k = some k0 ∧ (t.lk k).isSome = true := by
  simp only [Cx.ren] at h
  split at h
  · rename_i k0 hk0
    simp only [Option.map_eq_some_iff] at h
    obtain ⟨p, hp, rfl⟩ := h
    have h1 := List.find?_some hp
    have h2 := List.mem_of_find?_eq_some hp
    exact ⟨k0, hk0, by simpa using h1, lookup_of_mem (o := p.2) h2⟩
  · cases h

mutual
theorem leD_read {Z Z' : Nat → Prop} {σ : List (Nat × Option Nat)} {t : St} {fl : Nat → Option Ob} (hZ : ∀ b, b < w.heap.size → Z' b → Z b) (hfl : ∀ k sz es, fl k = some (.row sz es) → c.live k = true → Rd Z' w none (.fz sz es) (c.rv k)) (hfl2 : ∀ k sz es, fl k = some (.rws sz es) → c.live k = true → Rd Z' w none (.fz sz (outE es)) (c.rv k)) : ∀ (b : D) {x : D} {v : Value}, leD σ (fun k => (t.lk k).isSome) fl x b → Rd Z w (some c) x v → Rd Z' w (some (c.ren σ t)) b v
  | .any, x, v, _, _ => by simp only [Rd]
  | .row k, x, v, h, hr => by
    simp only [leD] at h
    obtain ⟨h1, h2⟩ := h
    simp only [Rd]
    refine ⟨h1, ?_⟩
    cases hs : sg σ k with
    | none =>
      rw [hs] at h2
      obtain ⟨z, rfl⟩ := h2
      simp only [Rd] at hr
      simp [Cx.ren, hs, hr]
    | some k' =>
      rw [hs] at h2
      subst h2
      simp only [Rd] at hr
      simp [Cx.ren, hs, hr.2]
  | .own k o, x, v, h, hr => by
    simp only [leD] at h
    obtain ⟨h1, k', h2, rfl⟩ := h
    simp only [Rd] at hr ⊢
    obtain ⟨_, b, hb, hv⟩ := hr
    exact ⟨h1, b, by simp [Cx.ren, h2, hb], hv⟩
  | .elr k sz i o, x, v, h, hr => by
    simp only [leD] at h
    obtain ⟨h1, k', h2, rfl⟩ := h
    simp only [Rd] at hr ⊢
    obtain ⟨_, b, hb, hv⟩ := hr
    exact ⟨h1, b, by simp [Cx.ren, h2, hb], hv⟩
  | .vw k sz lo n cp, x, v, h, hr => by
    simp only [leD] at h
    obtain ⟨h1, k', h2, rfl⟩ := h
    simp only [Rd] at hr ⊢
    obtain ⟨_, b, o, hb, hv⟩ := hr
    exact ⟨h1, b, o, by simp [Cx.ren, h2, hb], hv⟩
  | .sub _ _, x, v, h, hr => by
    cases x <;> first | (simp only [Rd] at hr; done) | (simp [leD, D.clos] at h)
  | .sbx _, x, v, h, hr => by
    cases x <;> first | (simp only [Rd] at hr; done) | (simp [leD, D.clos] at h)
  | .err o, x, v, h, hr => by
    have : x = .err o := by cases x <;> simp only [leD] at h <;> exact h.2
    subst this
    simpa only [Rd] using hr
  | .ub, x, v, h, hr => by
    cases x with
    | bool b => simp only [Rd] at hr ⊢; exact ⟨b, hr⟩
    | ub => simpa only [Rd] using hr
    | _ => simp only [leD] at h; cases h.2
  | .agg ds, x, v, h, hr => by
    cases x <;> simp only [leD] at h
    case agg cs =>
      simp only [Rd] at hr ⊢
      obtain ⟨vs, h1, h2⟩ := hr
      exact ⟨vs, h1, leDL_read hZ hfl hfl2 ds h h2⟩
    all_goals cases h.2
  | .tup ds, x, v, h, hr => by
    cases x <;> simp only [leD] at h
    case tup cs =>
      simp only [Rd] at hr ⊢
      obtain ⟨vs, h1, h2⟩ := hr
      exact ⟨vs, h1, leDL_read hZ hfl hfl2 ds h h2⟩
    all_goals cases h.2
  | .int k n, x, v, h, hr => by
    have : x = .int k n := by cases x <;> simp only [leD] at h <;> exact h.2
    subst this; simpa only [Rd] using hr
  | .bool b, x, v, h, hr => by
    have : x = .bool b := by cases x <;> simp only [leD] at h <;> exact h.2
    subst this; simpa only [Rd] using hr
  | .str b, x, v, h, hr => by
    have : x = .str b := by cases x <;> simp only [leD] at h <;> exact h.2
    subst this; simpa only [Rd] using hr
  | .nilp, x, v, h, hr => by
    have : x = .nilp := by cases x <;> simp only [leD] at h <;> first | rfl | exact h.2
    subst this; simpa only [Rd] using hr
  | .nl sz, x, v, h, hr => by
    have : x = .nl sz := by cases x <;> simp only [leD] at h <;> exact h.2
    subst this; simpa only [Rd] using hr
  | .fz sz es, x, v, h, hr => by
    cases x with
    | row k =>
      simp only [leD] at h
      split at h
      · rename_i sz' es' hk
        obtain ⟨rfl, rfl⟩ := h
        simp only [Rd] at hr
        rw [hr.2]
        have := hfl k _ _ hk hr.1
        simpa only [Rd] using this
      · rename_i sz' es' hk
        obtain ⟨rfl, rfl⟩ := h
        simp only [Rd] at hr
        rw [hr.2]
        have := hfl2 k _ _ hk hr.1
        simpa only [Rd] using this
      · exact h.elim
    | nl z =>
      simp only [leD] at h
      subst h
      simp only [Rd] at hr ⊢
      exact .inl ⟨⟨none, hr⟩, trivial⟩
    | fz sz' es' =>
      have : D.fz sz' es' = .fz sz es := by simp only [leD] at h; exact h.2
      rw [this] at hr
      have := Rd.mono (Ext.refl (fun _ => False) w) (fun _ _ h => h.elim) hZ (.fz sz es) (c := some c) (c' := some c) (Cx.le_refl _) hr
      simpa only [Rd] using this
    | _ => simp only [leD] at h; cases h.2
  | .ad sz es i o, x, v, h, hr => by
    have : x = .ad sz es i o := by cases x <;> simp only [leD] at h <;> exact h.2
    subst this
    have := Rd.mono (Ext.refl (fun _ => False) w) (fun _ _ h => h.elim) hZ (.ad sz es i o) (c := some c) (c' := some c) (Cx.le_refl _) hr
    simpa only [Rd] using this
  | .xad cs, x, v, h, hr => by
    have : x = .xad cs := by cases x <;> simp only [leD] at h <;> exact h.2
    subst this
    have := Rd.mono (Ext.refl (fun _ => False) w) (fun _ _ h => h.elim) hZ (.xad cs) (c := some c) (c' := some c) (Cx.le_refl _) hr
    simpa only [Rd] using this
  | .clo f caps, x, v, h, hr => by
    cases x <;> simp only [leD] at h
    case clo g cs =>
      simp only [Rd] at hr ⊢
      obtain ⟨vs, h1, h2⟩ := hr
      rcases h with ⟨hcl, rfl, rfl⟩ | ⟨rfl, hl⟩
      · exact ⟨vs, h1, closL_read hZ cs hcl h2⟩
      · exact ⟨vs, h1, leDL_read hZ hfl hfl2 caps hl h2⟩
    all_goals cases h.2
  | .wh g d, x, v, h, hr => by
    have hx : (D.wh g d).clos = true := by cases x <;> simp only [leD] at h <;> exact h.1
    simp [D.clos] at hx
theorem leDL_read {Z Z' : Nat → Prop} {σ : List (Nat × Option Nat)} {t : St} {fl : Nat → Option Ob} (hZ : ∀ b, b < w.heap.size → Z' b → Z b) (hfl : ∀ k sz es, fl k = some (.row sz es) → c.live k = true → Rd Z' w none (.fz sz es) (c.rv k)) (hfl2 : ∀ k sz es, fl k = some (.rws sz es) → c.live k = true → Rd Z' w none (.fz sz (outE es)) (c.rv k)) : ∀ (bs : List D) {xs : List D} {vs : List Value}, leDL σ (fun k => (t.lk k).isSome) fl xs bs → RdL Z w (some c) xs vs → RdL Z' w (some (c.ren σ t)) bs vs
  | [], [], vs, _, hr => by simpa only [RdL] using hr
  | [], _ :: _, vs, h, _ => by simp [leDL] at h
  | _ :: _, [], vs, h, _ => by simp [leDL] at h
  | b :: bs, x :: xs, vs, h, hr => by
    simp only [leDL] at h
    simp only [RdL] at hr ⊢
    obtain ⟨v, r, h1, h2, h3⟩ := hr
    exact ⟨v, r, h1, leD_read hZ hfl hfl2 b h.1 h2, leDL_read hZ hfl hfl2 bs h.2 h3⟩
theorem clos_read {Z Z' : Nat → Prop} {cx cx' : Cx} (hZ : ∀ b, b < w.heap.size → Z' b → Z b) : ∀ (d : D) {v : Value}, d.clos = true → Rd Z w (some cx) d v → Rd Z' w (some cx') d v
  | .any, v, _, _ => by simp only [Rd]
  | .agg ds, v, h, hr => by
    simp only [Rd, D.clos] at h hr ⊢
    obtain ⟨vs, h1, h2⟩ := hr
    exact ⟨vs, h1, closL_read hZ ds h h2⟩
  | .tup ds, v, h, hr => by
    simp only [Rd, D.clos] at h hr ⊢
    obtain ⟨vs, h1, h2⟩ := hr
    exact ⟨vs, h1, closL_read hZ ds h h2⟩
  | .clo f ds, v, h, hr => by
    simp only [Rd, D.clos] at h hr ⊢
    obtain ⟨vs, h1, h2⟩ := hr
    exact ⟨vs, h1, closL_read hZ ds h h2⟩
  | .int k n, v, _, hr => by simpa only [Rd] using hr
  | .bool b, v, _, hr => by simpa only [Rd] using hr
  | .str b, v, _, hr => by simpa only [Rd] using hr
  | .nilp, v, _, hr => by simpa only [Rd] using hr
  | .nl sz, v, _, hr => by simpa only [Rd] using hr
  | .fz sz es, v, _, hr => by
    have := Rd.mono (Ext.refl (fun _ => False) w) (fun _ _ h => h.elim) hZ (.fz sz es) (c := some cx) (c' := some cx) (Cx.le_refl _) hr
    simpa only [Rd] using this
  | .ad sz es i o, v, _, hr => by
    have := Rd.mono (Ext.refl (fun _ => False) w) (fun _ _ h => h.elim) hZ (.ad sz es i o) (c := some cx) (c' := some cx) (Cx.le_refl _) hr
    simpa only [Rd] using this
  | .xad cs, v, _, hr => by
    have := Rd.mono (Ext.refl (fun _ => False) w) (fun _ _ h => h.elim) hZ (.xad cs) (c := some cx) (c' := some cx) (Cx.le_refl _) hr
    simpa only [Rd] using this
  | .own k o, v, h, _ => by simp [D.clos] at h
  | .row k, v, h, _ => by simp [D.clos] at h
  | .elr k sz i o, v, h, _ => by simp [D.clos] at h
  | .vw k sz lo n cp, v, h, _ => by simp [D.clos] at h
  | .ub, v, _, hr => by simpa only [Rd] using hr
  | .err _, v, _, hr => by simpa only [Rd] using hr
  | .wh g d, v, h, _ => by simp [D.clos] at h
  | .sub _ _, v, h, _ => by simp [D.clos] at h
  | .sbx _, v, h, _ => by simp [D.clos] at h
theorem closL_read {Z Z' : Nat → Prop} {cx cx' : Cx} (hZ : ∀ b, b < w.heap.size → Z' b → Z b) : ∀ (ds : List D) {vs : List Value}, closL ds = true → RdL Z w (some cx) ds vs → RdL Z' w (some cx') ds vs
  | [], vs, _, hr => by simpa only [RdL] using hr
  | d :: ds, vs, h, hr => by
    simp only [closL, Bool.and_eq_true] at h
    simp only [RdL] at hr ⊢
    obtain ⟨v, r, h1, h2, h3⟩ := hr
    exact ⟨v, r, h1, clos_read hZ d h.1 h2, closL_read hZ ds h.2 h3⟩
end

theorem leD_sub {σ : List (Nat × Option Nat)} {tl : Nat → Bool} {fl : Nat → Option Ob} {x y : D} (h : leD σ tl fl x y) (hx : x.isSub = true) : y = .any ∨ y = x := by
  cases x <;> first | (simp [D.isSub] at hx; done) | skip
  all_goals cases y <;> first | exact .inl rfl | skip
  all_goals first
    | (simp only [leD] at h; obtain ⟨rfl, rfl⟩ := h; exact .inr rfl)
    | (simp only [leD] at h; subst h; exact .inr rfl)
    | (exfalso; simp only [leD] at h; obtain ⟨_, h⟩ := h; cases h; done)
    | (exfalso; simp only [leD] at h; obtain ⟨_, _, _, h⟩ := h; cases h; done)
    | (exfalso; simp only [leD] at h; obtain ⟨_, h⟩ := h; split at h <;> first | (cases h; done) | (obtain ⟨_, h⟩ := h; cases h))
theorem leD_sub' {σ : List (Nat × Option Nat)} {tl : Nat → Bool} {fl : Nat → Option Ob} {x y : D} (h : leD σ tl fl x y) (hy : y.isSub = true) : x.isSub = true := by
  cases y <;> first | (simp [D.isSub] at hy; done) | skip
  all_goals cases x <;> first | rfl | (simp [leD, D.clos] at h)
theorem leDL_readS {Z Z' : Nat → Prop} {σ : List (Nat × Option Nat)} {t : St} {fl : Nat → Option Ob} (hZ : ∀ b, b < w.heap.size → Z' b → Z b) (hfl : ∀ k sz es, fl k = some (.row sz es) → c.live k = true → Rd Z' w none (.fz sz es) (c.rv k)) (hfl2 : ∀ k sz es, fl k = some (.rws sz es) → c.live k = true → Rd Z' w none (.fz sz (outE es)) (c.rv k)) :
    ∀ {ys xs : List D} {vs : List Value} {bs : List Nat}, leDL σ (fun k => (t.lk k).isSome) fl xs ys → RdSL Z w (some c) xs vs bs → ∃ bs', bs'.Sublist bs ∧ RdSL Z' w (some (c.ren σ t)) ys vs bs'
  | [], [], vs, bs, _, hr => ⟨[], List.nil_sublist _, by simp only [RdSL] at hr ⊢; exact ⟨hr.1, trivial⟩⟩
  | [], _ :: _, vs, bs, h, _ => by simp [leDL] at h
  | _ :: _, [], vs, bs, h, _ => by simp [leDL] at h
  | y :: ys, x :: xs, vs, bs, h, hr => by
    simp only [leDL] at h
    simp only [RdSL] at hr
    obtain ⟨v, r, b1, b2, rfl, h1, h2, rfl⟩ := hr
    obtain ⟨b2', hs2, g2⟩ := leDL_readS hZ hfl hfl2 h.2 h2
    have one : ∃ b1', b1'.Sublist b1 ∧ RdS Z' w (some (c.ren σ t)) y v b1' := by
      cases hx : x.isSub with
      | true =>
        rcases leD_sub h.1 hx with rfl | rfl
        · exact ⟨[], List.nil_sublist _, (RdS.of rfl).2 ⟨by simp only [Rd], rfl⟩⟩
        · refine ⟨b1, List.Sublist.refl _, ?_⟩
          cases y <;> first | (simp [D.isSub] at hx; done) | skip
          · have := RdS.mono (Ext.refl (fun _ => False) w) (fun _ _ h => h.elim) hZ (.sub _ _) (c := none) (c' := none) trivial (v := v) (bs := b1) (by simpa only [RdS] using h1) (fun _ _ h => h)
            simpa only [RdS] using this
          · have := RdS.mono (Ext.refl (fun _ => False) w) (fun _ _ h => h.elim) hZ (.sbx _) (c := none) (c' := none) trivial (v := v) (bs := b1) (by simpa only [RdS] using h1) (fun _ _ h => h)
            simpa only [RdS] using this
      | false =>
        have hy : y.isSub = false := by
          cases hy : y.isSub with
          | false => rfl
          | true => rw [leD_sub' h.1 hy] at hx; cases hx
        obtain ⟨q1, rfl⟩ := (RdS.of hx).1 h1
        exact ⟨[], List.Sublist.refl _, (RdS.of hy).2 ⟨leD_read hZ hfl hfl2 y h.1 q1, rfl⟩⟩
    obtain ⟨b1', hs1, g1⟩ := one
    exact ⟨b1' ++ b2', hs1.append hs2, by simp only [RdSL]; exact ⟨v, r, b1', b2', rfl, g1, g2, rfl⟩⟩

theorem leOb_lookup {σ : List (Nat × Option Nat)} {tl : Nat → Bool} {fl lk : Nat → Option Ob} : ∀ {l : List (Nat × Ob)}, leOb σ tl fl lk l → ∀ k o, l.lookup k = some o →
    match o with
    | .box cs => ∃ k' ds, sg σ k = some k' ∧ lk k' = some (.box ds) ∧ leDL σ tl fl ds cs
    | .row sz es => (∃ k', sg σ k = some k' ∧ lk k' = some (.row sz es)) ∨ (sg σ k = none ∧ es = [])
    | .arr sz es => ∃ k', sg σ k = some k' ∧ lk k' = some (.arr sz es)
    | .rws sz es => (∃ k', sg σ k = some k' ∧ lk k' = some (.rws sz es)) ∨ (sg σ k = none ∧ es = [])
    | .ars sz es => ∃ k', sg σ k = some k' ∧ lk k' = some (.ars sz es)
    | .bld U e bs => ∃ k', sg σ k = some k' ∧ lk k' = some (.bld U e bs)
    | .rwh sz es i e => ∃ k' e', sg σ k = some k' ∧ lk k' = some (.rwh sz es i e') ∧ leDL σ tl fl e' e
  | [], _, k, o, hk => by simp [List.lookup] at hk
  | (j, p) :: r, h, k, o, hk => by
    by_cases hj : k = j
    · subst hj
      simp [List.lookup] at hk
      subst hk
      cases p with
      | box cs =>
        simp only [leOb] at h
        obtain ⟨h, _⟩ := h
        cases hs : sg σ k with
        | none => rw [hs] at h; exact h.elim
        | some k' =>
          rw [hs] at h
          simp only at h
          split at h
          · exact ⟨k', _, rfl, ‹_›, h⟩
          · exact h.elim
      | row sz es =>
        simp only [leOb] at h
        obtain ⟨h, _⟩ := h
        cases hs : sg σ k with
        | none => rw [hs] at h; exact .inr ⟨rfl, h⟩
        | some k' => rw [hs] at h; exact .inl ⟨k', rfl, h⟩
      | arr sz es =>
        simp only [leOb] at h
        obtain ⟨h, _⟩ := h
        cases hs : sg σ k with
        | none => rw [hs] at h; exact h.elim
        | some k' => rw [hs] at h; exact ⟨k', rfl, h⟩
      | rws sz es =>
        simp only [leOb] at h
        obtain ⟨h, _⟩ := h
        cases hs : sg σ k with
        | none => rw [hs] at h; exact .inr ⟨rfl, h⟩
        | some k' => rw [hs] at h; exact .inl ⟨k', rfl, h⟩
      | ars sz es =>
        simp only [leOb] at h
        obtain ⟨h, _⟩ := h
        cases hs : sg σ k with
        | none => rw [hs] at h; exact h.elim
        | some k' => rw [hs] at h; exact ⟨k', rfl, h⟩
      | bld U e bs =>
        simp only [leOb] at h
        obtain ⟨h, _⟩ := h
        cases hs : sg σ k with
        | none => rw [hs] at h; exact h.elim
        | some k' => rw [hs] at h; exact ⟨k', rfl, h⟩
      | rwh sz es i e =>
        simp only [leOb] at h
        obtain ⟨h, _⟩ := h
        cases hs : sg σ k with
        | none => rw [hs] at h; exact h.elim
        | some k' =>
          rw [hs] at h
          simp only at h
          split at h
          · obtain ⟨rfl, rfl, rfl, h⟩ := h
            exact ⟨k', _, rfl, ‹_›, h⟩
          · exact h.elim
    · have h1 : (k == j) = false := by simpa using hj
      simp only [List.lookup, h1] at hk
      have hr : leOb σ tl fl lk r := by cases p <;> simp only [leOb] at h <;> exact h.2
      exact leOb_lookup hr k o hk

theorem apartK_spec : ∀ {l : List (Nat × Ob)} {σ : List (Nat × Option Nat)}, apartK (l.map fun p => sg σ p.1) = true → ∀ k k' x, (l.lookup k).isSome = true → (l.lookup k').isSome = true → sg σ k = some x → sg σ k' = some x → k = k'
  | [], _, _, k, k', x, hk, _, _, _ => by simp [List.lookup] at hk
  | (j, p) :: r, σ, h, k, k', x, hk, hk', hx, hx' => by
    have hmem : ∀ i, (r.lookup i).isSome = true → sg σ i ∈ r.map fun p => sg σ p.1 := by
      intro i hi
      have : ∀ (l : List (Nat × Ob)), (l.lookup i).isSome = true → sg σ i ∈ l.map fun p => sg σ p.1 := by
        intro l
        induction l with
        | nil => intro h; simp [List.lookup] at h
        | cons q l ih =>
          intro h
          by_cases hq : i = q.1
          · simp [hq]
          · have : (i == q.1) = false := by simpa using hq
            obtain ⟨q1, q2⟩ := q
            simp only [List.lookup, this] at h
            exact List.mem_cons_of_mem _ (ih h)
      exact this r hi
    by_cases h1 : k = j <;> by_cases h2 : k' = j
    · rw [h1, h2]
    · subst h1
      have e2 : (k' == k) = false := by simpa using h2
      simp only [List.lookup, e2] at hk'
      simp only [List.map_cons, hx, apartK, Bool.and_eq_true, Bool.not_eq_true'] at h
      have := hmem k' hk'
      rw [hx'] at this
      rw [List.contains_eq_mem] at h
      simp [this] at h
    · subst h2
      have e1 : (k == k') = false := by simpa using h1
      simp only [List.lookup, e1] at hk
      simp only [List.map_cons, hx', apartK, Bool.and_eq_true, Bool.not_eq_true'] at h
      have := hmem k hk
      rw [hx] at this
      rw [List.contains_eq_mem] at h
      simp [this] at h
    · have e1 : (k == j) = false := by simpa using h1
      have e2 : (k' == j) = false := by simpa using h2
      simp only [List.lookup, e1] at hk
      simp only [List.lookup, e2] at hk'
      have hr : apartK (r.map fun p => sg σ p.1) = true := by
        simp only [List.map_cons] at h
        cases hj : sg σ j with
        | none => rw [hj] at h; exact h
        | some y => rw [hj] at h; simp only [apartK, Bool.and_eq_true] at h; exact h.2
      exact apartK_spec hr k k' x hk hk' hx hx'

theorem Sat.le (h : Sat T X Y w0 c s a w) {σ : List (Nat × Option Nat)} {t : St} (hle : s.le σ t) : Sat T X Y w0 (c.ren σ t) t a w := by
  obtain ⟨hap, hkp, htm, hob⟩ := hle
  have live : ∀ k k', (t.lk k).isSome = true → sg σ k = some k' → c.live k' = true := by
    intro k k' hk hs
    obtain ⟨o, ho⟩ := Option.isSome_iff_exists.1 hk
    have := leOb_lookup hob k o ho
    rw [h.live]
    cases o with
    | box cs =>
      obtain ⟨k2, ds, h1, h2, _⟩ := this
      rw [hs] at h1
      obtain rfl := Option.some.inj h1
      rw [h2]; rfl
    | row sz es =>
      rcases this with ⟨k2, h1, h2⟩ | ⟨h1, _⟩
      · rw [hs] at h1
        obtain rfl := Option.some.inj h1
        rw [h2]; rfl
      · rw [hs] at h1; cases h1
    | arr sz es =>
      obtain ⟨k2, h1, h2⟩ := this
      rw [hs] at h1
      obtain rfl := Option.some.inj h1
      rw [h2]; rfl
    | rws sz es =>
      rcases this with ⟨k2, h1, h2⟩ | ⟨h1, _⟩
      · rw [hs] at h1
        obtain rfl := Option.some.inj h1
        rw [h2]; rfl
      · rw [hs] at h1; cases h1
    | ars sz es =>
      obtain ⟨k2, h1, h2⟩ := this
      rw [hs] at h1
      obtain rfl := Option.some.inj h1
      rw [h2]; rfl
    | bld U e bs =>
      obtain ⟨k2, h1, h2⟩ := this
      rw [hs] at h1
      obtain rfl := Option.some.inj h1
      rw [h2]; rfl
    | rwh sz es i e =>
      obtain ⟨k2, _, h1, h2, _⟩ := this
      rw [hs] at h1
      obtain rfl := Option.some.inj h1
      rw [h2]; rfl
  have how : ∀ b k k0, c.ow b = some k0 → sg σ k = some k0 → (t.lk k).isSome = true → (c.ren σ t).ow b = some k := by
    intro b k k0 hb hs hk
    simp only [Cx.ren, hb]
    obtain ⟨o, ho⟩ := Option.isSome_iff_exists.1 hk
    have hex : ∃ p ∈ t.ob, (fun p : Nat × Ob => sg σ p.1 == some k0) p = true := ⟨(k, o), mem_of_lookup ho, by simp [hs]⟩
    cases hf : t.ob.find? fun p => sg σ p.1 == some k0 with
    | none =>
      obtain ⟨p, hp, hp2⟩ := hex
      exact absurd hp2 (List.find?_eq_none.1 hf p hp)
    | some p =>
      have h1 := List.find?_some hf
      have h2 := List.mem_of_find?_eq_some hf
      have h3 := apartK_spec hap p.1 k k0 (lookup_of_mem (o := p.2) h2) hk (by simpa using h1) hs
      simp [h3]
  have hPX : ∀ b, b < w.heap.size → PX X (c.ren σ t) b → PX X c b := by
    intro b _ hp
    rcases hp with hp | ⟨k, hk, hid⟩ | ⟨k, hk⟩
    · exact .inl hp
    · simp only [Cx.ren] at hk hid
      cases hs : sg σ k with
      | none => rw [hs] at hid; cases hid
      | some k' =>
        rw [hs] at hid
        exact .inr (.inl ⟨k', live k k' hk hs, hid⟩)
    · obtain ⟨k0, h0, _⟩ := ren_ow hk
      exact .inr (.inr ⟨k0, h0⟩)
  have hnz : ∀ k b, (t.ob.any fun p => sg σ p.1 == some k) = false → c.live k = true → c.ids k = some b ∨ c.ow b = some k → ¬ PX X (c.ren σ t) b := by
    intro k b hany hl hb hp
    have hno : ∀ j, sg σ j = some k → (t.lk j).isSome = true → False := by
      intro j hs hj
      obtain ⟨o, ho⟩ := Option.isSome_iff_exists.1 hj
      have := List.any_eq_false.1 hany _ (mem_of_lookup ho)
      simp [hs] at this
    rcases hp with hp | ⟨j, hj, hjb⟩ | ⟨j, hj⟩
    · rcases hb with hb | hb
      · exact (h.fresh k b hl hb).2 hp
      · exact (h.owf b k hb).2.1 hp
    · simp only [Cx.ren] at hj hjb
      cases hs : sg σ j with
      | none => rw [hs] at hjb; cases hjb
      | some j' =>
        rw [hs] at hjb
        rcases hb with hb | hb
        · have := h.inj j' k b (live j j' hj hs) hl hjb hb
          subst this
          exact hno j hs hj
        · exact h.owi b k j' hb (live j j' hj hs) hjb
    · obtain ⟨k0, h0, h1, h2⟩ := ren_ow hj
      rcases hb with hb | hb
      · exact h.owi b k0 k h0 hl hb
      · rw [hb] at h0
        obtain rfl := Option.some.inj h0
        exact hno j h1 h2
  have hfl : ∀ k sz es, freeOf σ t.ob s.lk k = some (.row sz es) → c.live k = true → Rd (PX X (c.ren σ t)) w none (.fz sz es) (c.rv k) := by
    intro k sz es hk hl
    unfold freeOf at hk
    split at hk
    · cases hk
    · rename_i hany
      exact h.row_open hPX (fun b hb => hnz k b (by simpa using hany) hl (.inl hb)) hk
  have hfl2 : ∀ k sz es, freeOf σ t.ob s.lk k = some (.rws sz es) → c.live k = true → Rd (PX X (c.ren σ t)) w none (.fz sz (outE es)) (c.rv k) := by
    intro k sz es hk hl
    unfold freeOf at hk
    split at hk
    · cases hk
    · rename_i hany
      exact h.rws_open hPX (fun b hb => hnz k b (by simpa using hany) hl hb) hk
  have hE : ∀ (sz : Nat) (es : List (List D)) (vs : List Value), RdE (PX X c) w sz es vs → RdE (PX X (c.ren σ t)) w sz es vs := fun sz es vs hd => RdE.mono (Ext.refl (fun _ => False) w) (fun _ _ h => h.elim) hPX es hd
  refine ⟨fun k => rfl, leDL_read hPX hfl hfl2 _ htm h.tm, ?_, ?_, ?_, h.ext, fun i => Rd.mono (Ext.refl (fun _ => False) w) (fun _ _ h => h.elim) hPX _ (c := none) (c' := none) trivial (h.gl i), h.Xb, ?_, h.dfs, ?_, fun b k hb => (ren_ow hb).elim fun k0 h0 => h.owf b k0 h0.1, fun b k j hb hj hid => ?_⟩
  · intro k o ho
    have := leOb_lookup hob k o ho
    cases o with
    | box cs =>
      obtain ⟨k', ds, h1, h2, h3⟩ := this
      obtain ⟨b, arr, U, e1, e2, e3⟩ := h.ob k' _ h2
      exact ⟨b, arr, U, by simp [Cx.ren, h1, e1], e2, leDL_read hPX hfl hfl2 _ h3 e3⟩
    | row sz es =>
      rcases this with ⟨k', h1, h2⟩ | ⟨h1, rfl⟩
      · obtain ⟨vs, U, e1, e2, e3⟩ := h.ob k' _ h2
        exact ⟨vs, U, by simpa [Cx.ren, h1] using e1, hE _ _ _ e2, e3⟩
      · exact ⟨[], 0, by simpa [Cx.ren, h1] using OwnsR.nil w 0 sz none, by simp [RdE], by simp⟩
    | arr sz es =>
      obtain ⟨k', h1, h2⟩ := this
      obtain ⟨b, cur, U, e1, e2, e3, e4, e5⟩ := h.ob k' _ h2
      exact ⟨b, cur, U, by simp [Cx.ren, h1, e1], e2, e3, e4, hE _ _ _ e5⟩
    | rws sz es =>
      rcases this with ⟨k', h1, h2⟩ | ⟨h1, rfl⟩
      · obtain ⟨vs, U, bs, e1, e2, e3, e4⟩ := h.ob k' _ h2
        exact ⟨vs, U, bs, by simpa [Cx.ren, h1] using e1, RdSE.mono (Ext.refl (fun _ => False) w) (fun _ _ h => h.elim) hPX _ e2 (fun _ _ h => h), e3, e4.1, fun b hb => how b k k' (e4.2 b hb) h1 (by rw [ho]; rfl)⟩
      · exact ⟨[], 0, [], by simpa [Cx.ren, h1] using OwnsR.nil w 0 sz none, by simp [RdSE], by simp, Owd.nil _ _⟩
    | ars sz es =>
      obtain ⟨k', h1, h2⟩ := this
      obtain ⟨b, cur, U, bs, e1, e2, e3, e4, e5, e6⟩ := h.ob k' _ h2
      exact ⟨b, cur, U, bs, by simp [Cx.ren, h1, e1], e2, e3, e4, RdSE.mono (Ext.refl (fun _ => False) w) (fun _ _ h => h.elim) hPX _ e5 (fun _ _ h => h), e6.1, fun b hb => how b k k' (e6.2 b hb) h1 (by rw [ho]; rfl)⟩
    | bld U e bs =>
      obtain ⟨k', h1, h2⟩ := this
      obtain ⟨b, p, v, g, e1, e2, e3, e4, e5, e6⟩ := h.ob k' _ h2
      exact ⟨b, p, v, g, by simp [Cx.ren, h1, e1], e2, e3, e4, e5, fun x hx => ⟨(e6 x hx).1, how x k k' (e6 x hx).2 h1 (by rw [ho]; rfl)⟩⟩
    | rwh sz es i e =>
      obtain ⟨k', e', h1, h2, h3⟩ := this
      obtain ⟨hi, vs, U, bs, cs, e1, e2, e3, e4, e5⟩ := h.ob k' _ h2
      obtain ⟨cs', hs, q⟩ := leDL_readS hPX hfl hfl2 h3 e3
      have e5' := e5.sub (List.Sublist.append (List.Sublist.refl bs) hs)
      exact ⟨hi, vs, U, bs, cs', by simpa [Cx.ren, h1] using e1, RdSE.mono (Ext.refl (fun _ => False) w) (fun _ _ h => h.elim) hPX _ e2 (fun _ _ h => h), q, e4, e5'.1, fun b hb => how b k k' (e5'.2 b hb) h1 (by rw [ho]; rfl)⟩
  · intro k k' b hk hk' hb hb'
    simp only [Cx.ren] at hk hk' hb hb'
    cases hs : sg σ k with
    | none => rw [hs] at hb; cases hb
    | some j =>
      cases hs' : sg σ k' with
      | none => rw [hs'] at hb'; cases hb'
      | some j' =>
        rw [hs] at hb
        rw [hs'] at hb'
        have := h.inj j j' b (live k j hk hs) (live k' j' hk' hs') hb hb'
        subst this
        exact apartK_spec hap k k' j hk hk' hs hs'
  · intro k b hk hb
    simp only [Cx.ren] at hk hb
    cases hs : sg σ k with
    | none => rw [hs] at hb; cases hb
    | some j =>
      rw [hs] at hb
      exact h.fresh j b (live k j hk hs) hb
  · intro k hk
    simp only [Cx.ren] at hk ⊢
    cases hs : sg σ k with
    | none => exact ⟨rfl, rfl⟩
    | some j => exact h.rv1 j (live k j hk hs)
  · intro k hk hl
    simp only [Cx.ren] at hl
    obtain ⟨o, ho⟩ := Option.isSome_iff_exists.1 hl
    have hs : sg σ k = some k := by
      unfold keeps at hkp
      rw [List.all_eq_true] at hkp
      have hmem : ∀ (l : List (Nat × Ob)) o, l.lookup k = some o → (k, o) ∈ l := by
        intro l
        induction l with
        | nil => intro o h; simp [List.lookup] at h
        | cons q l ih =>
          intro o h
          obtain ⟨q1, q2⟩ := q
          by_cases hq : k = q1
          · subst hq; simp [List.lookup] at h; subst h; simp
          · have : (k == q1) = false := by simpa using hq
            simp only [List.lookup, this] at h
            exact List.mem_cons_of_mem _ (ih o h)
      have := hkp _ (hmem _ o ho)
      simp only [Bool.or_eq_true, decide_eq_true_eq, beq_iff_eq] at this
      rcases this with h1 | h1
      · omega
      · exact h1
    have := h.base k hk (live k k hl hs)
    simp only [Cx.ren, hs, Option.bind_some]
    exact this
  · obtain ⟨k0, h0, _, _⟩ := ren_ow hb
    simp only [Cx.ren] at hj hid
    cases hs : sg σ j with
    | none => rw [hs] at hid; cases hid
    | some j' =>
      rw [hs] at hid
      exact h.owi b k0 j' h0 (live j j' hj hs) hid

/-! ### Marks -/
theorem anyE {Z : Nat → Prop} {sz : Nat} : ∀ (m : Nat) (us : List Value), us.length = m * sz → RdE Z w sz (List.replicate m (List.replicate sz .any)) us
  | 0, us, h => by
    have : us = [] := List.eq_nil_of_length_eq_zero (by simpa using h)
    subst this
    simp [RdE]
  | m + 1, us, h => by
    simp only [List.replicate_succ, RdE]
    refine ⟨us.take sz, us.drop sz, (List.take_append_drop _ _).symm, by rw [List.length_take, h, Nat.succ_mul]; omega, ?_, anyE m _ (by rw [List.length_drop, h, Nat.succ_mul]; omega)⟩
    have : ∀ (n : Nat) (vs : List Value), vs.length = n → RdL Z w none (List.replicate n .any) vs := by
      intro n
      induction n with
      | zero => intro vs hv; simp [List.eq_nil_of_length_eq_zero hv, RdL]
      | succ n ih =>
        intro vs hv
        cases vs with
        | nil => simp at hv
        | cons u us =>
          simp only [List.replicate_succ, RdL]
          exact ⟨u, us, rfl, by simp only [Rd], ih us (by simpa using hv)⟩
    exact this sz _ (by rw [List.length_take, h, Nat.succ_mul]; omega)

mutual
theorem opn_read {Z : Nat → Prop} {k sz n cp g : Nat} (hi : c.ids k = some g) (hv : c.rv k = .slice (some ⟨g, 0, none⟩) n cp) : ∀ (d : D) {v : Value}, Rd Z w (some c) d v → Rd Z w (some c) (d.opn k sz n cp) v
  | .row j, v, hr => by
    simp only [D.opn]
    split
    · rename_i hj
      subst hj
      simp only [Rd] at hr ⊢
      exact ⟨hr.1, g, 0, hi, by rw [hr.2, hv], fun _ => by simp⟩
    · exact hr
  | .agg cs, v, hr => by
    simp only [D.opn, Rd] at hr ⊢
    obtain ⟨vs, h1, h2⟩ := hr
    exact ⟨vs, h1, opnL_read hi hv cs h2⟩
  | .tup cs, v, hr => by
    simp only [D.opn, Rd] at hr ⊢
    obtain ⟨vs, h1, h2⟩ := hr
    exact ⟨vs, h1, opnL_read hi hv cs h2⟩
  | .clo f cs, v, hr => by
    simp only [D.opn, Rd] at hr ⊢
    obtain ⟨vs, h1, h2⟩ := hr
    exact ⟨vs, h1, opnL_read hi hv cs h2⟩
  | .wh q d, v, hr => by
    simp only [D.opn, Rd] at hr ⊢
    exact ⟨fun hg => opn_read hi hv d (hr.1 hg), hr.2⟩
  | .int _ _, v, hr | .bool _, v, hr | .str _, v, hr | .nilp, v, hr | .nl _, v, hr | .fz _ _, v, hr | .ad _ _ _ _, v, hr | .any, v, hr | .own _ _, v, hr | .elr _ _ _ _, v, hr | .ub, v, hr | .err _, v, hr | .xad _, v, hr | .vw _ _ _ _ _, v, hr | .sub _ _, v, hr | .sbx _, v, hr => by simpa only [D.opn] using hr
theorem opnL_read {Z : Nat → Prop} {k sz n cp g : Nat} (hi : c.ids k = some g) (hv : c.rv k = .slice (some ⟨g, 0, none⟩) n cp) : ∀ (ds : List D) {vs : List Value}, RdL Z w (some c) ds vs → RdL Z w (some c) (opnL k sz n cp ds) vs
  | [], vs, hr => by simpa only [opnL] using hr
  | d :: ds, vs, hr => by
    simp only [opnL, RdL] at hr ⊢
    obtain ⟨v, r, h1, h2, h3⟩ := hr
    exact ⟨v, r, h1, opn_read hi hv d h2, opnL_read hi hv ds h3⟩
end

theorem opnL_map (k sz n cp : Nat) : ∀ ds : List D, opnL k sz n cp ds = ds.map (D.opn k sz n cp)
  | [] => rfl
  | d :: ds => by simp [opnL, opnL_map k sz n cp ds]
theorem opn_isSub (k sz n cp : Nat) (d : D) : (d.opn k sz n cp).isSub = d.isSub := by
  cases d <;> simp only [D.opn] <;> (try split) <;> rfl
theorem opn_sub (k sz n cp : Nat) (d : D) (h : d.isSub = true) : d.opn k sz n cp = d := by
  cases d <;> first | (simp [D.isSub] at h; done) | simp only [D.opn]
theorem Ob.opn_mapc (k sz n cp : Nat) (o : Ob) : o.opn k sz n cp = o.mapc (D.opn k sz n cp) := by
  cases o <;> simp [Ob.opn, Ob.mapc, opnL_map]
theorem lk_opnO (k sz n cp : Nat) : ∀ (l : List (Nat × Ob)) (j : Nat), (opnO k sz n cp l).lookup j = (l.lookup j).map (Ob.opn k sz n cp)
  | [], j => by simp [opnO, List.lookup]
  | (i, p) :: r, j => by
    simp only [opnO]
    by_cases hj : j = i
    · subst hj; simp [List.lookup]
    · have h1 : (j == i) = false := by simpa using hj
      simp only [List.lookup, h1]
      exact lk_opnO k sz n cp r j

/-- A row is opened: it is empty and nowhere, or an array with a view. -/
theorem Sat.opn (h : Sat T X Y w0 c s a w) {k sz : Nat} {es : List (List D)} (hk : s.lk k = some (.row sz es)) : es = [] ∨ ∃ m, es.length + m ≤ 9223372036854775807 ∧ Sat T X Y w0 c (s.opnT k sz es.length (es.length + m) (es ++ List.replicate m (List.replicate sz .any))) a w := by
  obtain ⟨vs, U, e1, e2, e3⟩ := h.ob k _ hk
  rcases e1.2 with ⟨_, g2, _⟩ | ⟨g, cap, cur, g1, g2, g3, g4, g5, g6, g7⟩
  · exact .inl (List.eq_nil_of_length_eq_zero g2)
  · obtain ⟨m, rfl⟩ : ∃ m, cap = es.length + m := ⟨cap - es.length, by omega⟩
    refine .inr ⟨m, by simpa [maxLen] using g5, ?_⟩
    have hl : c.live k = true := by rw [h.live, hk]; rfl
    have hlk : ∀ j, (s.opnT k sz es.length (es.length + m) (es ++ List.replicate m (List.replicate sz .any))).lk j = if j = k then some (.arr sz (es ++ List.replicate m (List.replicate sz .any))) else (s.lk j).map (Ob.opn k sz es.length (es.length + m)) := by
      intro j
      unfold St.opnT St.lk
      simp only
      rw [lk_put, lk_opnO]
    refine ⟨fun j => ?_, opnL_read g2 g1 _ h.tm, fun j o hj => ?_, h.inj, h.fresh, h.ext, h.gl, h.Xb, h.rv1, h.dfs, h.base, h.owf, h.owi⟩
    · rw [hlk]
      by_cases hj : j = k
      · simp [hj, hl]
      · simp [hj, h.live]
    · rw [hlk] at hj
      by_cases hjk : j = k
      · subst hjk
        simp at hj
        subst hj
        refine ⟨g, cur, U, g2, g3, by simpa using g6, by simpa using g5, ?_⟩
        have hspare := anyE (w := w) (Z := PX X c) (sz := sz) m (cur.toList.drop (es.length * sz)) (by rw [List.length_drop, Array.length_toList, g6, Nat.add_mul]; omega)
        have := e2.append hspare
        rw [← g7, List.take_append_drop] at this
        exact this
      · simp only [hjk, if_false] at hj
        cases hq : s.lk j with
        | none => rw [hq] at hj; cases hj
        | some q =>
          rw [hq] at hj
          simp at hj
          subst hj
          rw [Ob.opn_mapc]
          exact ObOK.tr (c' := c) (k' := j) (D.opn k sz es.length (es.length + m)) (Ext.refl (fun _ => False) w) (fun _ _ h => h.elim) (fun _ _ h => h) rfl rfl (fun _ _ h => h) (fun b hb => ⟨id, hb⟩) (fun d v hd => opn_read g2 g1 d hd) (opn_isSub _ _ _ _) (opn_sub _ _ _ _) (h.ob j q hq)

/-- The same, of a row that has rows of its own. -/
theorem Sat.opnS (h : Sat T X Y w0 c s a w) {k sz : Nat} {es : List (List D)} (hk : s.lk k = some (.rws sz es)) : es = [] ∨ ∃ m, es.length + m ≤ 9223372036854775807 ∧ Sat T X Y w0 c (s.opnS k sz es.length (es.length + m) (es ++ List.replicate m (List.replicate sz .any))) a w := by
  obtain ⟨vs, U, bs, e1, e2, e3, e4⟩ := h.ob k _ hk
  rcases e1.2 with ⟨_, g2, _⟩ | ⟨g, cap, cur, g1, g2, g3, g4, g5, g6, g7⟩
  · exact .inl (List.eq_nil_of_length_eq_zero g2)
  · obtain ⟨m, rfl⟩ : ∃ m, cap = es.length + m := ⟨cap - es.length, by omega⟩
    refine .inr ⟨m, by simpa [maxLen] using g5, ?_⟩
    have hl : c.live k = true := by rw [h.live, hk]; rfl
    have hlk : ∀ j, (s.opnS k sz es.length (es.length + m) (es ++ List.replicate m (List.replicate sz .any))).lk j = if j = k then some (.ars sz (es ++ List.replicate m (List.replicate sz .any))) else (s.lk j).map (Ob.opn k sz es.length (es.length + m)) := by
      intro j
      unfold St.opnS St.lk
      simp only
      rw [lk_put, lk_opnO]
    refine ⟨fun j => ?_, opnL_read g2 g1 _ h.tm, fun j o hj => ?_, h.inj, h.fresh, h.ext, h.gl, h.Xb, h.rv1, h.dfs, h.base, h.owf, h.owi⟩
    · rw [hlk]
      by_cases hj : j = k
      · simp [hj, hl]
      · simp [hj, h.live]
    · rw [hlk] at hj
      by_cases hjk : j = k
      · subst hjk
        simp at hj
        subst hj
        refine ⟨g, cur, U, bs ++ [], g2, g3, by simpa using g6, by simpa using g5, ?_, by simpa using e4⟩
        have hspare := anyE (w := w) (Z := PX X c) (sz := sz) m (cur.toList.drop (es.length * sz)) (by rw [List.length_drop, Array.length_toList, g6, Nat.add_mul]; omega)
        have := e2.append (RdSE.of_closed hspare)
        rw [← g7, List.take_append_drop] at this
        exact this
      · simp only [hjk, if_false] at hj
        cases hq : s.lk j with
        | none => rw [hq] at hj; cases hj
        | some q =>
          rw [hq] at hj
          simp at hj
          subst hj
          rw [Ob.opn_mapc]
          exact ObOK.tr (c' := c) (k' := j) (D.opn k sz es.length (es.length + m)) (Ext.refl (fun _ => False) w) (fun _ _ h => h.elim) (fun _ _ h => h) rfl rfl (fun _ _ h => h) (fun b hb => ⟨id, hb⟩) (fun d v hd => opn_read g2 g1 d hd) (opn_isSub _ _ _ _) (opn_sub _ _ _ _) (h.ob j q hq)

/-! ### A box is looked at as a slice of one struct -/
def Cx.boxed (c : Cx) (k b : Nat) : Cx := { c with rv := fun j => if j = k then .slice (some ⟨b, 0, none⟩) 1 1 else c.rv j }
mutual
theorem tob_read {Z : Nat → Prop} {k sz b : Nat} : ∀ (d : D) {v : Value}, Rd Z w (some c) d v → Rd Z w (some (c.boxed k b)) (d.tob k sz) v
  | .own j o, v, hr => by
    simp only [D.tob]
    split
    · rename_i hj
      subst hj
      simp only [Rd] at hr ⊢
      obtain ⟨h1, g, h2, h3⟩ := hr
      exact ⟨h1, g, h2, by rw [h3]; simp⟩
    · simp only [Rd] at hr ⊢; exact hr
  | .row j, v, hr => by
    simp only [D.tob]
    split
    · simp only [Rd]
    · rename_i hj
      simp only [Rd] at hr ⊢
      exact ⟨hr.1, by rw [hr.2]; simp [Cx.boxed, hj]⟩
  | .elr j z i o, v, hr => by
    simp only [D.tob]
    split
    · simp only [Rd]
    · simp only [Rd] at hr ⊢; exact hr
  | .vw j z lo n cp, v, hr => by
    simp only [D.tob]
    split
    · simp only [Rd]
    · simp only [Rd] at hr ⊢; exact hr
  | .agg cs, v, hr => by
    simp only [D.tob, Rd] at hr ⊢
    obtain ⟨vs, h1, h2⟩ := hr
    exact ⟨vs, h1, tobL_read cs h2⟩
  | .tup cs, v, hr => by
    simp only [D.tob, Rd] at hr ⊢
    obtain ⟨vs, h1, h2⟩ := hr
    exact ⟨vs, h1, tobL_read cs h2⟩
  | .clo f cs, v, hr => by
    simp only [D.tob, Rd] at hr ⊢
    obtain ⟨vs, h1, h2⟩ := hr
    exact ⟨vs, h1, tobL_read cs h2⟩
  | .wh q d, v, hr => by
    simp only [D.tob, Rd] at hr ⊢
    exact ⟨fun hg => tob_read d (hr.1 hg), hr.2⟩
  | .int _ _, v, hr | .bool _, v, hr | .str _, v, hr | .nilp, v, hr | .nl _, v, hr | .fz _ _, v, hr | .ad _ _ _ _, v, hr | .ub, v, hr | .err _, v, hr | .xad _, v, hr => by simpa only [D.tob, Rd] using hr
  | .any, v, hr => by simp only [D.tob, Rd]
  | .sub _ _, v, hr | .sbx _, v, hr => by simp only [Rd] at hr
theorem tobL_read {Z : Nat → Prop} {k sz b : Nat} : ∀ (ds : List D) {vs : List Value}, RdL Z w (some c) ds vs → RdL Z w (some (c.boxed k b)) (tobL k sz ds) vs
  | [], vs, hr => by simpa only [tobL, RdL] using hr
  | d :: ds, vs, hr => by
    simp only [tobL, RdL] at hr ⊢
    obtain ⟨v, r, h1, h2, h3⟩ := hr
    exact ⟨v, r, h1, tob_read d h2, tobL_read ds h3⟩
end
theorem tobL_map (k sz : Nat) : ∀ ds : List D, tobL k sz ds = ds.map (D.tob k sz)
  | [] => rfl
  | d :: ds => by simp [tobL, tobL_map k sz ds]
theorem tob_isSub (k sz : Nat) (d : D) : (d.tob k sz).isSub = d.isSub := by
  cases d <;> simp only [D.tob] <;> (try split) <;> rfl
theorem tob_sub (k sz : Nat) (d : D) (h : d.isSub = true) : d.tob k sz = d := by
  cases d <;> first | (simp [D.isSub] at h; done) | simp only [D.tob]
theorem Ob.tob_mapc (k sz : Nat) (o : Ob) : o.tob k sz = o.mapc (D.tob k sz) := by
  cases o <;> simp [Ob.tob, Ob.mapc, tobL_map]
theorem lk_tobO (k sz : Nat) : ∀ (l : List (Nat × Ob)) (j : Nat), (tobO k sz l).lookup j = (l.lookup j).map (Ob.tob k sz)
  | [], j => by simp [tobO, List.lookup]
  | (i, p) :: r, j => by
    simp only [tobO]
    by_cases hj : j = i
    · subst hj; simp [List.lookup]
    · have h1 : (j == i) = false := by simpa using hj
      simp only [List.lookup, h1]
      exact lk_tobO k sz r j
theorem Sat.bx (h : Sat T X Y w0 c s a w) {k : Nat} {cs : List D} (hk : s.lk k = some (.box cs)) (hkb : k < baseN) (hcs : cs.all D.cell' = true) : ∃ c', Sat T X Y w0 c' (s.bxS k cs) a w := by
  obtain ⟨b, arr, V, e1, e2, e3⟩ := h.ob k _ hk
  have hl : c.live k = true := by rw [h.live, hk]; rfl
  have hlen : arr.toList.length = cs.length := e3.length
  have hlk : ∀ j, (s.bxS k cs).lk j = if j = k then some (.rwh cs.length [List.replicate cs.length .any] 0 (tobL k cs.length cs)) else (s.lk j).map (Ob.tob k cs.length) := by
    intro j
    unfold St.bxS St.lk
    simp only
    rw [lk_put, lk_tobO]
  refine ⟨c.boxed k b, fun j => ?_, tobL_read _ h.tm, fun j o hj => ?_, h.inj, h.fresh, h.ext, h.gl, h.Xb, fun j hj => ?_, h.dfs, fun j hj hlj => ?_, h.owf, h.owi⟩
  · rw [hlk]
    show c.live j = _
    by_cases hj : j = k
    · simp [hj, hl]
    · simp [hj, h.live]
  · rw [hlk] at hj
    by_cases hjk : j = k
    · subst hjk
      simp at hj
      subst hj
      have hrv : (c.boxed j b).rv j = .slice (some ⟨b, 0, none⟩) 1 1 := by simp [Cx.boxed]
      have hbs : (arr.toList.drop (0 * cs.length)).take cs.length = arr.toList := by rw [Nat.zero_mul, List.drop_zero, List.take_of_length_le (by omega)]
      have hset : ([List.replicate cs.length D.any]).set 0 (List.replicate cs.length .any) = [List.replicate cs.length .any] := rfl
      refine ⟨by simp, arr.toList, V, [], [], ?_, ?_, ?_, fun u hu => ?_, Owd.nil _ _⟩
      · rw [hrv]
        exact ⟨by simp only [List.length_singleton]; omega, .inr ⟨b, 1, arr, rfl, e1, e2, by simp, by simp [maxLen], by rw [← hlen]; simp, by simp only [List.length_singleton, Nat.one_mul]; rw [List.take_of_length_le (by omega)]⟩⟩
      · rw [hset]
        simp only [RdSE]
        exact ⟨arr.toList, [], [], [], by simp, hlen, RdSL.of_closed (rdL_any _ _ hlen), ⟨rfl, rfl⟩, rfl⟩
      · rw [hbs]
        exact RdSL.of_closed (tobL_read _ e3)
      · have : ∀ (ds : List D) (us : List Value), RdL (PX X c) w (some c) ds us → ds.all D.cell' = true → ∀ u ∈ us, u.oneCell' = true := by
          intro ds
          induction ds with
          | nil => intro us h1 _ u hu; simp only [RdL] at h1; rw [h1] at hu; simp at hu
          | cons d ds ih =>
            intro us h1 h2 u hu
            simp only [RdL] at h1
            simp only [List.all_cons, Bool.and_eq_true] at h2
            obtain ⟨v, r, rfl, h3, h4⟩ := h1
            rcases List.mem_cons.1 hu with rfl | hu
            · exact (h.one h3 h2.1).2
            · exact ih r h4 h2.2 u hu
        exact this cs _ e3 hcs u hu
    · simp only [hjk, if_false] at hj
      cases hq : s.lk j with
      | none => rw [hq] at hj; cases hj
      | some q =>
        rw [hq] at hj
        simp at hj
        subst hj
        rw [Ob.tob_mapc]
        exact ObOK.tr (X := X) (c := c) (c' := c.boxed k b) (k' := j) (D.tob k cs.length) (Ext.refl (fun _ => False) w) (fun _ _ h => h.elim) (fun _ _ h => h) rfl (by simp [Cx.boxed, hjk]) (fun _ _ h => h) (fun x hx => ⟨id, hx⟩) (fun d v hd => tob_read d hd) (tob_isSub _ _) (tob_sub _ _) (h.ob j q hq)
  · show ((if j = k then _ else c.rv j) : Value).cells = _ ∧ _
    by_cases hjk : j = k
    · subst hjk
      have hrv : (c.boxed j b).rv j = .slice (some ⟨b, 0, none⟩) 1 1 := by simp [Cx.boxed]
      rw [hrv]; simp; exact ⟨rfl, rfl⟩
    · have hrv : (c.boxed k b).rv j = c.rv j := by simp [Cx.boxed, hjk]
      rw [hrv, if_neg hjk]; exact h.rv1 j hj
  · have hjk : j ≠ k := by omega
    have hrv : (c.boxed k b).rv j = c.rv j := by simp [Cx.boxed, hjk]
    rw [hrv]; exact h.base j hj hlj

/-- A view from the front becomes a row. -/
theorem Sat.cls (h : Sat T X Y w0 c s a w) {t k sz n : Nat} {es : List (List D)} (ht : s.get t = .vw k sz 0 n es.length) (hk : s.lk k = some (.arr sz es)) (hn : n ≤ es.length) (hf : s.lk t = none) (htb : t < baseN) (hall : ((es.take n).all fun e => e.all D.cell) = true) :
    ∃ c', Sat T X Y w0 c' (s.clsT t k sz (es.take n)) a w := by
  have hr := h.getT t
  rw [ht] at hr
  simp only [Rd] at hr
  obtain ⟨hl, b, o, hb, hv, ho⟩ := hr
  obtain ⟨b', cur, U, e1, e2, e3, e4, e5⟩ := h.ob k _ hk
  obtain rfl : b' = b := Option.some.inj (e1.symm.trans hb)
  have hlen : (es.take n).length = n := by simp; omega
  have hE := e5.take n
  have hvl := hE.length
  rw [hlen] at hvl
  have hone := h.rdE_ones hE hall
  have hvv : (a.tmps.getD t undef).cells = #[a.tmps.getD t undef] ∧ (a.tmps.getD t undef).oneCell' = true := by rw [hv]; exact ⟨rfl, rfl⟩
  have main : ∀ (vb : Option Nat), (vb = c.ids k ∨ vb = none) → OwnsR w U sz vb (a.tmps.getD t undef) n (cur.toList.take (n * sz)) → ∃ c', Sat T X Y w0 c' (s.clsT t k sz (es.take n)) a w := by
    intro vb hvb hown
    have hmv := h.move (v := a.tmps.getD t undef) (vb := vb) (j := t) (o := .row sz (es.take n)) hk (.inl hf) htb (w' := w) (Ext.refl (fun b => c.ids k = some b) w) (by
      rcases hvb with hvb | hvb
      · exact .inl hvb
      · exact .inr (.inl hvb)) hvv (fun _ r4 => by
      refine ⟨cur.toList.take (n * sz), U, ?_, r4 _ _ _ hE, hone⟩
      rw [hlen]
      simpa [Cx.moved, Cx.with] using hown)
    refine ⟨c.moved k t vb (a.tmps.getD t undef), ?_⟩
    have hput := hmv.put (some t) (d := .row t) (v := a.tmps.getD t undef) (by simp only [Rd]; exact ⟨by simp [Cx.moved, Cx.with], by simp [Cx.moved, Cx.with]⟩)
    have hself : a.put (some t) (a.tmps.getD t undef) = a := by
      cases a with
      | mk tmps defers =>
        simp only [Act.put]
        congr 1
        apply Array.ext_getElem?
        intro i
        by_cases hi : i = t
        · subst hi
          by_cases hlt : i < tmps.size
          · simp [Array.getD, hlt]
          · simp [hlt]
        · simp [Array.getElem?_setIfInBounds, Ne.symm hi]
    rw [hself] at hput
    exact hput
  rcases Nat.eq_zero_or_pos es.length with h0 | h0
  · have hn0 : n = 0 := by omega
    subst hn0
    refine main none (.inr rfl) ⟨by simp, .inl ⟨⟨some ⟨b', o, none⟩, by rw [hv, h0]⟩, rfl, rfl⟩⟩
  · have ho0 := ho h0
    simp only [Nat.zero_mul] at ho0
    refine main (c.ids k) (.inl rfl) ⟨hvl, .inr ⟨b', es.length, cur, by rw [hv, ho0], e1, e2, hn, by simpa using e4, e3, rfl⟩⟩

/-- The same, of an array whose elements have rows of their own. -/
theorem Sat.clsS (h : Sat T X Y w0 c s a w) {t k sz n : Nat} {es : List (List D)} (ht : s.get t = .vw k sz 0 n es.length) (hk : s.lk k = some (.ars sz es)) (hn : n ≤ es.length) (hf : s.lk t = none) (htb : t < baseN) (hall : ((es.take n).all fun e => e.all D.cellS) = true) :
    ∃ c', Sat T X Y w0 c' (s.clsS t k sz (es.take n)) a w := by
  have hr := h.getT t
  rw [ht] at hr
  simp only [Rd] at hr
  obtain ⟨hl, b, o, hb, hv, ho⟩ := hr
  obtain ⟨b', cur, U, bs, e1, e2, e3, e4, e5, e6⟩ := h.ob k _ hk
  obtain rfl : b' = b := Option.some.inj (e1.symm.trans hb)
  have hlen : (es.take n).length = n := by simp; omega
  obtain ⟨b1, b2, hbs, hE, _⟩ := e5.split n
  have hvl := hE.length
  rw [hlen] at hvl
  have hone := RdSE.ones h hE hall
  have hvv : (a.tmps.getD t undef).cells = #[a.tmps.getD t undef] ∧ (a.tmps.getD t undef).oneCell' = true := by rw [hv]; exact ⟨rfl, rfl⟩
  have main : ∀ (vb : Option Nat), (vb = c.ids k ∨ vb = none) → OwnsR w U sz vb (a.tmps.getD t undef) n (cur.toList.take (n * sz)) → ∃ c', Sat T X Y w0 c' (s.clsS t k sz (es.take n)) a w := by
    intro vb hvb hown
    have hmv := h.move (v := a.tmps.getD t undef) (vb := vb) (j := t) (o := .rws sz (es.take n)) hk (.inl hf) htb (w' := w) (Ext.refl (fun b => c.ids k = some b) w) (by
      rcases hvb with hvb | hvb
      · exact .inl hvb
      · exact .inr (.inl hvb)) hvv (fun hPX _ => by
      have e7 : Owd c k b1 := e6.sub (by rw [hbs]; exact List.sublist_append_left _ _)
      refine ⟨cur.toList.take (n * sz), U, b1, ?_, RdSE.mono (Ext.refl (fun _ => False) w) (fun _ _ h => h.elim) hPX _ hE (fun _ _ h => h), hone, e7.1, fun x hx => by simp [Cx.moved, e7.2 x hx]⟩
      rw [hlen]
      simpa [Cx.moved, Cx.with] using hown)
    refine ⟨c.moved k t vb (a.tmps.getD t undef), ?_⟩
    have hput := hmv.put (some t) (d := .row t) (v := a.tmps.getD t undef) (by simp only [Rd]; exact ⟨by simp [Cx.moved, Cx.with], by simp [Cx.moved, Cx.with]⟩)
    have hself : a.put (some t) (a.tmps.getD t undef) = a := by
      cases a with
      | mk tmps defers =>
        simp only [Act.put]
        congr 1
        apply Array.ext_getElem?
        intro i
        by_cases hi : i = t
        · subst hi
          by_cases hlt : i < tmps.size
          · simp [Array.getD, hlt]
          · simp [hlt]
        · simp [Array.getElem?_setIfInBounds, Ne.symm hi]
    rw [hself] at hput
    exact hput
  rcases Nat.eq_zero_or_pos es.length with h0 | h0
  · have hn0 : n = 0 := by omega
    subst hn0
    refine main none (.inr rfl) ⟨by simp, .inl ⟨⟨some ⟨b', o, none⟩, by rw [hv, h0]⟩, rfl, rfl⟩⟩
  · have ho0 := ho h0
    simp only [Nat.zero_mul] at ho0
    refine main (c.ids k) (.inl rfl) ⟨hvl, .inr ⟨b', es.length, cur, by rw [hv, ho0], e1, e2, hn, by simpa using e4, e3, rfl⟩⟩

theorem Sat.frzT (h : Sat T X Y w0 c s a w) (t : Nat) : ∃ c', Sat T X Y w0 c' (s.frzT t) a w := by
  unfold St.frzT
  (repeat' split) <;> first | exact ⟨_, h.frz _⟩ | exact ⟨c, h⟩

/-! ### Code -/
def cRegion (P : Program) (kf : Nat → Nat) (ops : Array Oper) : List Oper → Option (List IOper)
  | [] => some []
  | o :: r =>
    match cOper P kf ops o, cRegion P kf ops r with
    | some x, some l => some (x :: l)
    | _, _ => none

def cCode (P : Program) (kf : Nat → Nat) : Code → Option IC
  | .skip => some .skip
  | .region _ ops draw =>
    match cRegion P kf ops ops.toList with
    | some il => if draw then (cDrawnX P ops il).map .alt else some (.reg il)
    | none => none
  | .seq x y =>
    match cCode P kf x, cCode P kf y with
    | some x', some y' => some (.seq x' y')
    | _, _ => none
  | .cond c x y =>
    match cOpd P 0 c, cCode P kf x, cCode P kf y with
    | some c', some x', some y' => some (.cond c' x' y')
    | _, _, _ => none
  | .block id x => (cCode P kf x).map (.block id)
  | .loop x => (cCode P kf x).map .loop
  | .exit id => some (.exit id)
  | .ret => some .ret
  | _ => some .bad

def Ex.to : Ex → Exit
  | .normal => .normal
  | .exit id => .exit id
  | .ret => .ret

theorem cOp_slcr {op : Op} {U : TypeId} {n : Nat} {x m : Opd} (h : cOp P kf op U = some (.slc n x none (some m))) : ∃ t y hi e, op = .slice t y none (some hi) none ∧ P.underlying t = some (.slice e) ∧ sizeT P e = some n ∧ cOpd P t y = some x ∧ cOpd P 0 hi = some m := by
  cases op <;> simp only [cOp] at h
  case slice t y lo hi mx =>
    split at h
    · rename_i e hu
      cases mx with
      | some m0 =>
        simp only at h
        (repeat' (split at h)) <;> cases h
      | none =>
        simp only at h
        split at h
        · cases h
        · cases h
        · rename_i n' y' h' hn hy hlo hhi
          cases h
          have hl : lo = none := by cases lo <;> simp at hlo <;> rfl
          subst hl
          cases hi with
          | none => simp at hhi
          | some hi0 => exact ⟨t, y, hi0, e, rfl, hu, hn, hy, by simpa using hhi⟩
        · cases h
        · cases h
    · (repeat' (split at h)) <;> cases h
    · (repeat' (split at h)) <;> cases h
    · cases h
  case call cl =>
    unfold cCall at h
    split at h
    · split at h
      · simp only [Option.map_eq_some_iff] at h
        obtain ⟨_, _, h⟩ := h
        cases h
      · split at h
        · simp only [Option.map_eq_some_iff] at h; obtain ⟨_, _, h⟩ := h; cases h
        · simp only [Option.map_eq_some_iff] at h
          obtain ⟨_, _, h⟩ := h
          unfold callN at h
          split at h
          · unfold ovlOf at h; split at h <;> cases h
          · cases h
    · simp only [Option.map_eq_some_iff] at h
      obtain ⟨_, _, h⟩ := h
      cases h
    · unfold cBuiltin at h
      (repeat' (split at h)) <;> (first | (cases h; done) | (simp only [Option.map_eq_some_iff] at h; obtain ⟨_, _, h⟩ := h; cases h))
    · cases h
  all_goals (repeat' (split at h)) <;> (first | (cases h; done) | (simp only [Option.map_eq_some_iff] at h; obtain ⟨_, _, h⟩ := h; cases h))

theorem slcr_step (h : Sat T X Y w0 c s a w) {ops : Array Oper} {o : Oper} {io : IOper} (hc : cOper P kf ops o = some io) {n : Nat} {x m : Opd} {j : Nat} (hop : io.op = .slc n x none (some m)) (hgd : io.guard = none) (hdst : io.dst = some j) {k sz : Nat} {kd : IntKind} {q : Int} {es : List (List D)}
    (hk : (x.ev T s).un = .row k) (hm : (m.ev T s).un = .int kd q) (hlk : s.lk k = some (.row sz es)) (hφ : (x.ev T s).gu = true ∧ (m.ev T s).gu = true ∧ sz = n ∧ 0 ≤ q ∧ q ≤ es.length ∧ (s.lk j = none ∨ j = k) ∧ j < baseN)
    {K : Act → World → Prop} {Q : Exit → Act → World → Prop} (hK : ∀ c' a' w', Sat T X Y w0 c' (St.set ⟨forgetL k s.tm, obPut j (.row n (es.take q.toNat)) (forgetO k (obDel k s.ob))⟩ (some j) (.row j)) a' w' → K a' w') :
    if Region.wanted o (yielded ops a.tmps) = true then o.wp P a w K Q else K (a.put o.dst undef) w := by
  obtain ⟨hd, hguard, hcop⟩ := cOper_op hc (by rw [hop]; simp)
  rw [hop] at hcop
  have hw := h.guard (G := true) hguard (by rw [hgd]; rfl)
  rw [hw]
  simp only [if_true]
  obtain ⟨t, y, hi, e, ho, hu, hn, hy, hhi⟩ := cOp_slcr hcop
  obtain ⟨h1, h2, h3, h4, h5, h6, h7⟩ := hφ
  obtain ⟨v, w', c', hr, hS⟩ := snd_slcr (P := P) h ho hu hn hy hhi h1 h2 (j := j) (by rw [← hd, hdst]) hk hm hlk h3 h4 h5 h6 h7
  unfold Oper.wp
  rw [hr, Oper.upon_value]
  exact hK c' _ _ hS

theorem vcops_sound (hT : TbOK P kf T) {ops : Array Oper} {Qs : St → Prop} {Q : Exit → Act → World → Prop} (hQ : ∀ s c a w, Qs s → Sat T X Y w0 c s a w → Q .normal a w) :
    ∀ (il : List IOper) (l : List Oper), cRegion P kf ops l = some (il.filter fun o => !o.gh) → ∀ {s : St} {c : Cx} {a : Act} {w : World}, Sat T X Y w0 c s a w → VCopsG T il Qs s → wpList P ops Q l a w
  | [], l, hc, s, c, a, w, h, hv => by
    cases l with
    | nil => exact hQ s c a w hv h
    | cons o r =>
      simp only [cRegion] at hc
      split at hc <;> simp at hc
  | io :: il, l, hc, s, c, a, w, h, hv => by
    unfold VCopsG at hv
    split at hv
    · rename_i t ht
      have hg : io.gh = true := by simp [IOper.gh, ht]
      rw [List.filter_cons_of_neg (by simp [hg])] at hc
      obtain ⟨c', h'⟩ := h.frzT t
      exact vcops_sound hT hQ il l hc h' hv
    · rename_i t ht
      have hg : io.gh = true := by simp [IOper.gh, ht]
      rw [List.filter_cons_of_neg (by simp [hg])] at hc
      split at hv
      · rename_i k hk
        split at hv
        · rename_i sz es hlk
          rcases h.opn hlk with he | ⟨m, hm, h'⟩
          · exact vcops_sound hT hQ il l hc (h.frz [k]) (hv.1 he)
          · exact vcops_sound hT hQ il l hc h' (hv.2 m hm)
        · rename_i sz es hlk
          rcases h.opnS hlk with he | ⟨m, hm, h'⟩
          · exact vcops_sound hT hQ il l hc (h.frz [k]) (hv.1 he)
          · exact vcops_sound hT hQ il l hc h' (hv.2 m hm)
        · exact hv.elim
      · exact hv.elim
    · rename_i t ht
      have hg : io.gh = true := by simp [IOper.gh, ht]
      rw [List.filter_cons_of_neg (by simp [hg])] at hc
      split at hv
      · rename_i k sz n cp hk
        split at hv
        · rename_i sz' es hlk
          obtain ⟨⟨rfl, h1, rfl, h2, h3, h4⟩, hv⟩ := hv
          obtain ⟨c', h'⟩ := h.cls hk hlk h1 h2 h3 h4
          exact vcops_sound hT hQ il l hc h' hv
        · rename_i sz' es hlk
          obtain ⟨⟨rfl, h1, rfl, h2, h3, h4⟩, hv⟩ := hv
          obtain ⟨c', h'⟩ := h.clsS hk hlk h1 h2 h3 h4
          exact vcops_sound hT hQ il l hc h' hv
        · exact hv.elim
      · exact vcops_sound hT hQ il l hc h hv
      · exact hv.elim
    · rename_i t li ht
      have hg : io.gh = true := by simp [IOper.gh, ht]
      rw [List.filter_cons_of_neg (by simp [hg])] at hc
      split at hv
      · rename_i k sz i hk
        split at hv
        · rename_i sz' es hlk
          obtain ⟨⟨rfl, hi⟩, hv⟩ := hv
          obtain ⟨c', s', h', hv'⟩ := (h.hole hlk hi).vcou _ hv
          exact vcops_sound hT hQ il l hc h' hv'
        · rename_i sz' es i' e' hlk
          obtain ⟨c', s', h', hv'⟩ := h.vcou _ hv.2
          exact vcops_sound hT hQ il l hc h' hv'
        · exact hv.elim
      · exact hv.elim
    · rename_i t li ht
      have hg : io.gh = true := by simp [IOper.gh, ht]
      rw [List.filter_cons_of_neg (by simp [hg])] at hc
      split at hv
      · rename_i k hk
        obtain ⟨c', s', h', hv'⟩ := h.vccx _ hv
        exact vcops_sound hT hQ il l hc h' hv'
      · exact hv.elim
    · rename_i t ht
      have hg : io.gh = true := by simp [IOper.gh, ht]
      rw [List.filter_cons_of_neg (by simp [hg])] at hc
      split at hv
      · rename_i k hk
        split at hv
        · rename_i cs hlk
          obtain ⟨⟨h1, h2⟩, hv⟩ := hv
          obtain ⟨c', h'⟩ := h.bx hlk h1 h2
          exact vcops_sound hT hQ il l hc h' hv
        · exact hv.elim
      · exact hv.elim
    · rename_i ht
      have hg : io.gh = true := by simp [IOper.gh, ht]
      rw [List.filter_cons_of_neg (by simp [hg])] at hc
      match il, hc, hv with
      | [], _, hv => exact hv.elim
      | o2 :: r2, hc, hv =>
        simp only at hv
        split at hv
        · rename_i sz z x hop hgd
          have hg2 : o2.gh = false := by simp [IOper.gh, hop]
          rw [List.filter_cons_of_pos (by simp [hg2])] at hc
          cases l with
          | nil => simp [cRegion] at hc
          | cons o r =>
            simp only [cRegion] at hc
            split at hc
            · rename_i x' l' hx hl
              simp only [Option.some.injEq, List.cons.injEq] at hc
              obtain ⟨rfl, rfl⟩ := hc
              split at hv
              · rename_i φ s' hst
                have := bslx_step (P := P) h hx hop hgd hst hv.1 hv.2.1 (ops := ops) (K := wpList P ops Q r) (Q := Q) fun c' a' w' hS => vcops_sound hT hQ r2 r hl hS hv.2.2
                unfold wpList
                split
                · rename_i hw; rw [if_pos hw] at this; exact .inl this
                · rename_i hw; rw [if_neg hw] at this; exact this
              · exact hv.elim
            · cases hc
        · exact hv.elim
    · rename_i ht
      have hg : io.gh = true := by simp [IOper.gh, ht]
      rw [List.filter_cons_of_neg (by simp [hg])] at hc
      match il, hc, hv with
      | [], _, hv => exact hv.elim
      | o2 :: r2, hc, hv =>
        simp only at hv
        split at hv
        · rename_i n x m j hop hgd hdst
          have hg2 : o2.gh = false := by simp [IOper.gh, hop]
          rw [List.filter_cons_of_pos (by simp [hg2])] at hc
          cases l with
          | nil => simp [cRegion] at hc
          | cons o r =>
            simp only [cRegion] at hc
            split at hc
            · rename_i x' l' hx hl
              simp only [Option.some.injEq, List.cons.injEq] at hc
              obtain ⟨rfl, rfl⟩ := hc
              split at hv
              · rename_i k kd q hk hm
                split at hv
                · rename_i sz es hlk
                  have := slcr_step (P := P) h hx hop hgd hdst hk hm hlk hv.1 (ops := ops) (K := wpList P ops Q r) (Q := Q) fun c' a' w' hS => vcops_sound hT hQ r2 r hl hS hv.2
                  unfold wpList
                  split
                  · rename_i hw; rw [if_pos hw] at this; exact .inl this
                  · rename_i hw; rw [if_neg hw] at this; exact this
                · exact hv.elim
              · exact hv.elim
            · cases hc
        · exact hv.elim
    · rename_i hn1 hn2 hn3 hn4 hn5 hn8 hn6 hn7
      have hg : io.gh = false := by
        unfold IOper.gh
        split
        · rename_i t ht; exact absurd ht (hn1 t)
        · rename_i t ht; exact absurd ht (hn2 t)
        · rename_i t ht; exact absurd ht (hn3 t)
        · rename_i t li ht; exact absurd ht (hn4 t li)
        · rename_i t li ht; exact absurd ht (hn5 t li)
        · rename_i ht; exact absurd ht hn6
        · rename_i ht; exact absurd ht hn7
        · rename_i t ht; exact absurd ht (hn8 t)
        · rfl
      rw [List.filter_cons_of_pos (by simp [hg])] at hc
      cases l with
      | nil => simp [cRegion] at hc
      | cons o r =>
        simp only [cRegion] at hc
        split at hc
        · rename_i x l' hx hl
          simp only [Option.some.injEq, List.cons.injEq] at hc
          obtain ⟨rfl, rfl⟩ := hc
          split at hv
          · rename_i φ s' hst
            have := step_sound (P := P) hT h hx hst hv.1 (K := wpList P ops Q r) (Q := Q) fun c' a' w' hS => vcops_sound hT hQ il r hl hS hv.2
            unfold wpList
            split
            · rename_i hw; rw [if_pos hw] at this; exact .inl this
            · rename_i hw; rw [if_neg hw] at this; exact this
          · exact hv.elim
        · cases hc

theorem cRegion_spec {ops : Array Oper} : ∀ {l : List Oper} {il : List IOper}, cRegion P kf ops l = some il → ∀ (i : Nat) (oo : Oper), l[i]? = some oo → ∃ o, il[i]? = some o ∧ cOper P kf ops oo = some o
  | [], il, h, i, oo, hi => by simp at hi
  | x :: r, il, h, i, oo, hi => by
    simp only [cRegion] at h
    split at h
    · rename_i y l hy hl
      cases h
      cases i with
      | zero => simp at hi; subst hi; exact ⟨y, rfl, hy⟩
      | succ i => simpa using cRegion_spec hl i oo (by simpa using hi)
    · cases h
theorem cRegion_get {ops : Array Oper} {il : List IOper} (h : cRegion P kf ops ops.toList = some il) (i : Nat) (oo : Oper) (hi : ops[i]? = some oo) : ∃ o, il[i]? = some o ∧ cOper P kf ops oo = some o :=
  cRegion_spec h i oo (by simpa using hi)

theorem exists_least {M : Nat → Prop} (h : ∃ n, M n) : ∃ n, M n ∧ ∀ m, M m → n ≤ m := by
  obtain ⟨n, hn⟩ := h
  induction n using Nat.strongRecOn with
  | _ n ih =>
    by_cases hl : ∃ m, m < n ∧ M m
    · obtain ⟨m, h1, h2⟩ := hl
      exact ih m h1 h2
    · exact ⟨n, hn, fun m hm => Nat.le_of_not_lt fun hlt => hl ⟨m, hlt, hm⟩⟩

theorem cCode_seq {cd : Code} {x y : IC} (h : cCode P kf cd = some (.seq x y)) : ∃ a b, cd = .seq a b ∧ cCode P kf a = some x ∧ cCode P kf b = some y := by
  cases cd <;> simp only [cCode] at h
  case seq a b =>
    split at h
    · rename_i x' y' hx hy
      cases h
      exact ⟨a, b, rfl, hx, hy⟩
    · cases h
  all_goals (repeat' (split at h)) <;> (first | (cases h; done) | (simp only [Option.map_eq_some_iff] at h; obtain ⟨_, _, h⟩ := h; cases h))
theorem cCode_cond {cd : Code} {c : Opd} {x y : IC} (h : cCode P kf cd = some (.cond c x y)) : ∃ c' a b, cd = .cond c' a b ∧ cOpd P 0 c' = some c ∧ cCode P kf a = some x ∧ cCode P kf b = some y := by
  cases cd <;> simp only [cCode] at h
  case cond c' a b =>
    split at h
    · rename_i x' y' z' hx hy hz
      cases h
      exact ⟨c', a, b, rfl, hx, hy, hz⟩
    · cases h
  all_goals (repeat' (split at h)) <;> (first | (cases h; done) | (simp only [Option.map_eq_some_iff] at h; obtain ⟨_, _, h⟩ := h; cases h))
theorem cCode_block {cd : Code} {id : Nat} {x : IC} (h : cCode P kf cd = some (.block id x)) : ∃ a, cd = .block id a ∧ cCode P kf a = some x := by
  cases cd <;> simp only [cCode] at h
  case block id' a =>
    simp only [Option.map_eq_some_iff] at h
    obtain ⟨x', hx, h⟩ := h
    cases h
    exact ⟨a, rfl, hx⟩
  all_goals (repeat' (split at h)) <;> (first | (cases h; done) | (simp only [Option.map_eq_some_iff] at h; obtain ⟨_, _, h⟩ := h; cases h))
theorem cCode_loop {cd : Code} {x : IC} (h : cCode P kf cd = some (.loop x)) : ∃ a, cd = .loop a ∧ cCode P kf a = some x := by
  cases cd <;> simp only [cCode] at h
  case loop a =>
    simp only [Option.map_eq_some_iff] at h
    obtain ⟨x', hx, h⟩ := h
    cases h
    exact ⟨a, rfl, hx⟩
  all_goals (repeat' (split at h)) <;> (first | (cases h; done) | (simp only [Option.map_eq_some_iff] at h; obtain ⟨_, _, h⟩ := h; cases h))
theorem cCode_skip {cd : Code} (h : cCode P kf cd = some .skip) : cd = .skip := by
  cases cd <;> simp only [cCode] at h
  case skip => rfl
  all_goals (repeat' (split at h)) <;> (first | (cases h; done) | (simp only [Option.map_eq_some_iff] at h; obtain ⟨_, _, h⟩ := h; cases h))
theorem cCode_exit {cd : Code} {id : Nat} (h : cCode P kf cd = some (.exit id)) : cd = .exit id := by
  cases cd <;> simp only [cCode] at h
  case exit id' => cases h; rfl
  all_goals (repeat' (split at h)) <;> (first | (cases h; done) | (simp only [Option.map_eq_some_iff] at h; obtain ⟨_, _, h⟩ := h; cases h))
theorem cCode_ret {cd : Code} (h : cCode P kf cd = some .ret) : cd = .ret := by
  cases cd <;> simp only [cCode] at h
  case ret => rfl
  all_goals (repeat' (split at h)) <;> (first | (cases h; done) | (simp only [Option.map_eq_some_iff] at h; obtain ⟨_, _, h⟩ := h; cases h))
theorem cCode_reg {cd : Code} {il : List IOper} (h : cCode P kf cd = some (.reg il)) : ∃ id ops, cd = .region id ops false ∧ cRegion P kf ops ops.toList = some il := by
  cases cd <;> simp only [cCode] at h
  case region id ops draw =>
    split at h
    · rename_i il' hil
      split at h
      · simp only [Option.map_eq_some_iff] at h
        obtain ⟨_, _, h⟩ := h
        cases h
      · rename_i hd
        obtain rfl : draw = false := by simpa using hd
        cases h
        exact ⟨id, ops, rfl, hil⟩
    · cases h
  all_goals (repeat' (split at h)) <;> (first | (cases h; done) | (simp only [Option.map_eq_some_iff] at h; obtain ⟨_, _, h⟩ := h; cases h))
theorem cCode_alt {cd : Code} {ls : List (List IOper)} (h : cCode P kf cd = some (.alt ls)) : ∃ id ops il, cd = .region id ops true ∧ cRegion P kf ops ops.toList = some il ∧ cDrawnX P ops il = some ls := by
  cases cd <;> simp only [cCode] at h
  case region id ops draw =>
    split at h
    · rename_i il' hil
      split at h
      · rename_i hd
        subst hd
        simp only [Option.map_eq_some_iff] at h
        obtain ⟨_, hl, h⟩ := h
        cases h
        exact ⟨id, ops, il', rfl, hil, hl⟩
      · cases h
    · cases h
  all_goals (repeat' (split at h)) <;> (first | (cases h; done) | (simp only [Option.map_eq_some_iff] at h; obtain ⟨_, _, h⟩ := h; cases h))

open Classical in
theorem VC_sound (hT : TbOK P kf T) : ∀ (ic : IC) (cd : Code), cCode P kf cd = some ic.er → ∀ {Qs : Ex → St → Prop} {Q : Exit → Act → World → Prop}, (∀ e s c a w, Qs e s → Sat T X Y w0 c s a w → Q e.to a w) →
    ∀ {s : St} {c : Cx} {a : Act} {w : World}, Sat T X Y w0 c s a w → VC T ic Qs s → cd.wp P Q a w
  | .skip, cd, hc, Qs, Q, hQ, s, c, a, w, h, hv => by
    obtain rfl := cCode_skip hc
    exact wp_skip (hQ .normal s c a w hv h)
  | .alt ls, cd, hc, Qs, Q, hQ, s, c, a, w, h, hv => by
    obtain ⟨id, ops, il, rfl, hil, hls⟩ := cCode_alt hc
    simp only [VC] at hv
    exact drawnX_sound hT (cRegion_get hil) hls (fun s c a w hq hS => hQ .normal s c a w hq hS) h hv
  | .reg il, cd, hc, Qs, Q, hQ, s, c, a, w, h, hv => by
    obtain ⟨id, ops, rfl, hil⟩ := cCode_reg hc
    simp only [VC] at hv
    exact wp_region_list (vcops_sound hT (fun s c a w hq hS => hQ .normal s c a w hq hS) il ops.toList hil h hv)
  | .mrk ops b, cd, hc, Qs, Q, hQ, s, c, a, w, h, hv => by
    simp only [VC] at hv
    obtain ⟨hall, hv⟩ := hv
    have hf : (ops.filter fun o => !o.gh) = [] := by
      rw [List.filter_eq_nil_iff]
      intro o ho
      simp [List.all_eq_true.1 hall o ho]
    have := vcops_sound (ops := #[]) hT (Qs := fun s' => VC T b Qs s') (Q := fun _ a w => cd.wp P Q a w) (fun s c a w hq hS => VC_sound hT b cd hc hQ hS hq) ops [] (by rw [hf]; rfl) h hv
    exact this
  | .mrq b ops, cd, hc, Qs, Q, hQ, s, c, a, w, h, hv => by
    simp only [VC] at hv
    obtain ⟨hall, hv⟩ := hv
    have hf : (ops.filter fun o => !o.gh) = [] := by
      rw [List.filter_eq_nil_iff]
      intro o ho
      simp [List.all_eq_true.1 hall o ho]
    refine VC_sound hT b cd hc (fun e s c a w hq hS => ?_) h hv
    cases e with
    | normal => exact vcops_sound (ops := #[]) hT (Qs := fun s' => Qs .normal s') (Q := fun _ a w => Q Ex.normal.to a w) (fun s c a w hq hS => hQ .normal s c a w hq hS) ops [] (by rw [hf]; rfl) hS hq
    | exit id => exact hQ (.exit id) s c a w hq hS
    | ret => exact hQ .ret s c a w hq hS
  | .bad, cd, hc, Qs, Q, hQ, s, c, a, w, h, hv => by simp only [VC] at hv
  | .seq x' y', cd, hc, Qs, Q, hQ, s, c, a, w, h, hv => by
    obtain ⟨x, y, rfl, hx, hy⟩ := cCode_seq hc
    simp only [VC] at hv
    refine wp_seq (VC_sound hT x' x hx (Q := Exit.then (y.wp P Q) Q) (fun e s c a w hq hS => ?_) h hv)
    cases e with
    | normal => exact VC_sound hT y' y hy hQ hS hq
    | exit id => exact hQ (.exit id) s c a w hq hS
    | ret => exact hQ .ret s c a w hq hS
  | .seqc x' y', cd, hc, Qs, Q, hQ, s, c, a, w, h, hv => by
    obtain ⟨x, y, rfl, hx, hy⟩ := cCode_seq hc
    simp only [VC] at hv
    obtain ⟨ι, I, hv1, hv2⟩ := hv
    refine wp_seq (VC_sound hT x' x hx (Q := Exit.then (y.wp P Q) Q) (fun e s c a w hq hS => ?_) h hv1)
    cases e with
    | normal =>
      obtain ⟨σ, q, hle⟩ := hq
      exact VC_sound hT y' y hy hQ (hS.le hle) (hv2 q)
    | exit id => exact hQ (.exit id) s c a w hq hS
    | ret => exact hQ .ret s c a w hq hS
  | .cond c' x' y', cd, hc, Qs, Q, hQ, s, c, a, w, h, hv => by
    obtain ⟨cd', x, y, rfl, hcd, hx, hy⟩ := cCode_cond hc
    simp only [VC] at hv
    split at hv
    · rename_i t ht
      have hr := h.opd hcd
      rw [ht] at hr
      simp only [Rd] at hr
      exact wp_cond_split hr (fun e => VC_sound hT x' x hx hQ h (hv.1 e)) (fun e => VC_sound hT y' y hy hQ h (hv.2 e))
    · rename_i ht
      have hr := h.opd hcd
      rw [ht] at hr
      simp only [Rd] at hr
      obtain ⟨b, hr⟩ := hr
      exact wp_cond_split hr (fun e => VC_sound hT x' x hx hQ h hv.1) (fun e => VC_sound hT y' y hy hQ h hv.2)
    · exact hv.elim
  | .block id x', cd, hc, Qs, Q, hQ, s, c, a, w, h, hv => by
    obtain ⟨x, rfl, hx⟩ := cCode_block hc
    simp only [VC] at hv
    refine wp_block (VC_sound hT x' x hx (Q := Exit.inBlock id Q) (fun e s c a w hq hS => ?_) h hv)
    cases e with
    | normal => exact hQ .normal s c a w hq hS
    | exit i =>
      simp only [Ex.to, Exit.inBlock]
      simp only at hq
      split
      · rename_i hi; rw [if_pos hi] at hq; exact hQ .normal s c a w hq hS
      · rename_i hi; rw [if_neg hi] at hq; exact hQ (.exit i) s c a w hq hS
    | ret => exact hQ .ret s c a w hq hS
  | .loop x', cd, hc, Qs, Q, hQ, s, c, a, w, h, hv => by
    obtain ⟨x, rfl, hx⟩ := cCode_loop hc
    simp only [VC] at hv
    obtain ⟨ι, I, μ, ⟨σ, y0, hy0⟩, hround⟩ := hv
    have lq : ∀ {s t : St} {σ : List (Nat × Option Nat)} {c : Cx} {a : Act} {w : World}, s.leq σ t → Sat T X Y w0 c s a w → ∃ c', Sat T X Y w0 c' t a w := fun hl hS => hl.elim (fun e => ⟨_, e ▸ hS⟩) fun hl => ⟨_, hS.le hl⟩
    let In : Act → World → Prop := fun a w => ∃ y c, Sat T X Y w0 c (I y) a w
    let M : Act → World → Nat → Prop := fun a w n => ∃ y c, Sat T X Y w0 c (I y) a w ∧ μ y = n
    let m : Act → World → Nat := fun a w => if hM : ∃ n, M a w n then Classical.choose (exists_least hM) else 0
    refine wp_loop In m ⟨y0, lq hy0 h⟩ fun a w hIn => ?_
    have hM : ∃ n, M a w n := by
      obtain ⟨y, c, hS⟩ := hIn
      exact ⟨μ y, y, c, hS, rfl⟩
    obtain ⟨⟨y, c, hS, hy⟩, _⟩ := Classical.choose_spec (exists_least hM)
    have hm : m a w = μ y := by simp only [m, dif_pos hM]; exact hy.symm
    refine VC_sound hT x' x hx (Q := Exit.then (fun a' w' => In a' w' ∧ m a' w' < m a w) Q) (fun e s' c' a' w' hq hS' => ?_) hS (hround y)
    cases e with
    | normal =>
      obtain ⟨σ', y', hle, hlt⟩ := hq
      obtain ⟨c'', hS''⟩ := lq hle hS'
      refine ⟨⟨y', _, hS''⟩, ?_⟩
      have hM' : ∃ n, M a' w' n := ⟨μ y', y', _, hS'', rfl⟩
      have : m a' w' ≤ μ y' := by
        simp only [m, dif_pos hM']
        exact (Classical.choose_spec (exists_least hM')).2 _ ⟨y', _, hS'', rfl⟩
      omega
    | exit i => exact hQ (.exit i) s' c' a' w' hq hS'
    | ret => exact hQ .ret s' c' a' w' hq hS'
  | .exit id, cd, hc, Qs, Q, hQ, s, c, a, w, h, hv => by
    obtain rfl := cCode_exit hc
    exact wp_exit (hQ (.exit id) s c a w hv h)
  | .ret, cd, hc, Qs, Q, hQ, s, c, a, w, h, hv => by
    obtain rfl := cCode_ret hc
    exact wp_ret (hQ .ret s c a w hv h)

/-! ### A function -/
def cRes (P : Program) : List ResultVar → Option (List IRes)
  | [] => some []
  | .tmp t :: r => (cRes P r).map (.tmp t :: ·)
  | .cell t U :: r =>
    match sizeT P U, aggT P U, cRes P r with
    | some n, some ag, some l => some (.cell t n ag :: l)
    | _, _, _ => none

def cFn (P : Program) (kf : Nat → Nat) (fn : Func) : Option IFn :=
  match fn.body with
  | some cd =>
    match cCode P kf cd, cRes P fn.results.toList with
    | some b, some r => some ⟨fn.ntmps, b, r⟩
    | _, _ => none
  | none => none

/-- One result. -/
def resOne (tmps : Array Value) : ResultVar → Sem Value
  | .tmp t => pure (tmps.getD t undef)
  | .cell p U => do loadVar U (← asAddr (tmps.getD p undef))

theorem results_eq (fn : Func) (tmps : Array Value) : results fn tmps = (do
    let vs ← fn.results.mapM (resOne tmps)
    pure (if h : vs.size = 1 then vs[0] else .tuple vs)) := by
  unfold results
  congr 1

theorem results_read (h : Sat T X Y w0 c s a w) : ∀ {rs : List ResultVar} {is : List IRes} {ds : List D}, cRes P rs = some is → getRes s is = some ds →
    ∃ vs, (rs.mapM (resOne a.tmps)).run P w = .ok vs w ∧ RdL (PX X c) w (some c) ds vs
  | [], is, ds, hc, hg => by
    simp [cRes] at hc
    subst hc
    simp [getRes] at hg
    subst hg
    exact ⟨[], by simp, by simp [RdL]⟩
  | .tmp t :: r, is, ds, hc, hg => by
    simp only [cRes, Option.map_eq_some_iff] at hc
    obtain ⟨l, hl, rfl⟩ := hc
    simp only [getRes, IRes.get] at hg
    split at hg
    · rename_i d ds' hd hds
      cases hg
      cases hd
      obtain ⟨vs, h1, h2⟩ := results_read h hl hds
      refine ⟨a.tmps.getD t undef :: vs, by simp only [List.mapM_cons, resOne, Sem.run_bind, Sem.run_pure, Result.andThen_ok, h1], ?_⟩
      simp only [RdL]
      exact ⟨_, _, rfl, h.getT t, h2⟩
    · cases hg
  | .cell t U :: r, is, ds, hc, hg => by
    simp only [cRes] at hc
    split at hc
    · rename_i n ag l hn hag hl
      cases hc
      simp only [getRes] at hg
      split at hg
      · rename_i d ds' hd hds
        cases hg
        obtain ⟨vs, h1, h2⟩ := results_read h hl hds
        simp only [IRes.get] at hd
        split at hd
        · rename_i k hk
          split at hd
          · rename_i cs hlk
            split at hd
            · rename_i hcond
              cases hd
              have hr := h.getT t
              rw [hk] at hr
              simp only [Rd] at hr
              obtain ⟨hlv, b, hb, hv⟩ := hr
              obtain ⟨b', arr, E, e1, e2, e3⟩ := h.ob k _ hlk
              obtain rfl : b' = b := Option.some.inj (e1.symm.trans hb)
              have hlen := e3.length
              have hcells := (CellsAt.of_arr e2).sub 0 n
              have hld := run_load_at (P := P) hag hn hcells (by simp at hlen ⊢; omega) hcond.2
              simp only [Nat.zero_add, Instr.loadAt, Instr.sureAddr, Sem.run_bind, Sem.run_pure, Result.andThen_ok] at hld
              refine ⟨cutV ag ((arr.toList.drop 0).take n) :: vs, by simp only [List.mapM_cons, resOne, Sem.run_bind, hv, asAddr, Sem.run_pure, Result.andThen_ok, hld, h1], ?_⟩
              simp only [RdL]
              exact ⟨_, _, rfl, e3.cut ag 0 n (by omega) hcond.2, h2⟩
            · cases hd
          · cases hd
        · cases hd
      · cases hg
    · cases hc

theorem oneRes_read {Z : Nat → Prop} {cx : Option Cx} {ds : List D} {vs : List Value} (h : RdL Z w cx ds vs) : Rd Z w cx (oneRes ds) (if hh : vs.toArray.size = 1 then vs.toArray[0] else .tuple vs.toArray) := by
  have hl := h.length
  unfold oneRes
  split
  · rename_i d
    simp only [RdL] at h
    obtain ⟨v, r, rfl, hd, rfl⟩ := h
    simpa using hd
  · rename_i hn
    have : vs.toArray.size ≠ 1 := by
      intro e
      simp at e
      rw [e] at hl
      match ds, hl with
      | [d], _ => exact hn d rfl
    rw [dif_neg this]
    simp only [Rd]
    exact ⟨vs, rfl, h⟩

theorem rdL_anys {Z : Nat → Prop} {w : World} {cx : Option Cx} : ∀ (n : Nat) (vs : List Value), vs.length = n → RdL Z w cx (List.replicate n .any) vs
  | 0, vs, h => by
    obtain rfl := List.eq_nil_of_length_eq_zero h
    simp [RdL]
  | n + 1, vs, h => by
    cases vs with
    | nil => simp at h
    | cons v vs =>
      simp only [List.replicate_succ, RdL]
      exact ⟨_, _, rfl, by simp only [Rd], rdL_anys n vs (by simpa using h)⟩

/-- The temporaries alone are others. -/
theorem Sat.tms (h : Sat T X Y w0 c s a w) {ds : List D} {vs : Array Value} (hr : RdL (PX X c) w (some c) ds vs.toList) : Sat T X Y w0 c ⟨ds, s.ob⟩ { tmps := vs, defers := [] } w :=
  ⟨h.live, hr, h.ob, h.inj, h.fresh, h.ext, h.gl, h.Xb, h.rv1, rfl, h.base, h.owf, h.owi⟩

/-- A function that is verified on data does what is said of it. -/
theorem FOK.of (hT : TbOK P kf T) {f : Nat} {fn : Func} (hf : P.funcs[f]? = some fn) {ifn : IFn} (hc : cFn P kf fn = some ifn.er) {sp : Sp} (hv : Verified T ifn sp) : FOK P T f sp := by
  obtain ⟨n0, ib, ir⟩ := ifn
  unfold cFn at hc
  split at hc
  · rename_i cd hb
    split at hc
    · rename_i b r hcd hr
      simp only [IFn.er, Option.some.injEq, IFn.mk.injEq] at hc
      obtain ⟨rfl, rfl, rfl⟩ := hc
      unfold FOK
      unfold Verified at hv
      cases hx : sp.hx with
      | none =>
        rw [hx] at hv
        simp only at hv ⊢
        intro X w args ds hX hgl hargs hpre
        refine calls_of_wp hf hb ?_
        have hlen := hargs.length
        have hS : Sat T X Env.no w Cx.no ⟨ds ++ List.replicate (fn.ntmps - ds.length) .any, []⟩ { tmps := args ++ Array.replicate (fn.ntmps - args.size) undef, defers := [] } w := by
          have hPX : ∀ b, b < w.heap.size → PX X Cx.no b → X b := by
            intro b _ hp
            rcases hp with hp | ⟨k, hk, _⟩ | ⟨k, hk⟩
            · exact hp
            · cases hk
            · cases hk
          have hm : ∀ (d : D) (v : Value), Rd X w none d v → Rd (PX X Cx.no) w none d v := fun d v hd => Rd.mono (Ext.refl (fun _ => False) w) (fun _ _ h => h.elim) hPX d (c := none) (c' := none) trivial hd
          refine ⟨fun k => rfl, ?_, (fun k o ho => by simp [St.lk, List.lookup] at ho), (fun k _ _ hk => by cases hk), (fun k _ hk => by cases hk), Ext.refl _ _, fun i => hm _ _ (hgl i), hX, (fun k hk => by cases hk), rfl, (fun k _ hk => by cases hk), (fun b k hb => by cases hb), (fun b k j hb => by cases hb)⟩
          simp only [Array.toList_append, Array.toList_replicate]
          have hal : args.size = ds.length := by simpa using hlen
          rw [hal]
          refine RdL.append ?_ (rdL_anys _ _ (by simp))
          exact (RdL.mono (Ext.refl (fun _ => False) w) (fun _ _ h => h.elim) hPX _ (c := none) (c' := none) trivial hargs).closedL
        refine VC_sound hT ib cd hcd (fun e s c a w' hq hS' => ?_) hS (hv ds hpre)
        have fin : ∀ (ds' : List D), getRes s r = some ds' → (oneRes ds').out s.lk = sp.F ds → ((oneRes ds').out s.lk).clos = true →
            a.defers = [] ∧ ∃ v, (results fn a.tmps).run P w' = .ok v w' ∧ ∃ v', Ending.returned v = .returned v' ∧ Rd X w' none (sp.F ds) v' ∧ Ext (fun _ => False) w w' := by
          intro ds' hg h1 h2
          obtain ⟨vs, hr1, hr2⟩ := results_read hS' hr hg
          refine ⟨hS'.dfs, if hh : vs.toArray.size = 1 then vs.toArray[0] else .tuple vs.toArray, ?_, _, rfl, ?_, hS'.ext⟩
          · rw [results_eq, Array.mapM_eq_mapM_toList]
            simp [hr1]
          · rw [← h1]
            exact Sat.out1 hS' (fun b _ hb => .inl hb) _ (.inr fun k b hl hb => hb.elim (fun hb => (hS'.fresh k b hl hb).2) (fun hb => (hS'.owf b k hb).2.1)) (oneRes_read hr2) h2
        cases e with
        | exit id => exact hq.elim
        | normal =>
          simp only [fnPost] at hq
          split at hq
          · exact fin _ ‹_› hq.1 hq.2
          · exact hq.elim
        | ret =>
          simp only [fnPost] at hq
          split at hq
          · exact fin _ ‹_› hq.1 hq.2
          · exact hq.elim
      | some hs =>
        rw [hx] at hv
        simp only at hv ⊢
        intro X w c0 args ds ob hS0 hob hpre
        refine calls_of_wp hf hb ?_
        have hargs := hS0.tm
        have hlen := hargs.length
        have hS : Sat T X ⟨c0.mine, c0⟩ w c0 ⟨ds ++ List.replicate (fn.ntmps - ds.length) .any, ob⟩ { tmps := args ++ Array.replicate (fn.ntmps - args.size) undef, defers := [] } w := by
          refine hS0.tms ?_
          simp only [Array.toList_append, Array.toList_replicate]
          have hal : args.size = ds.length := by simpa using hlen
          rw [hal]
          exact RdL.append hargs (rdL_anys _ _ (by simp))
        refine VC_sound hT ib cd hcd (fun e s c a w' hq hS' => ?_) hS (hv ds ob hpre hob)
        have fin : ∀ (ds' : List D), getRes s r = some ds' → (∃ σ, St.le σ ⟨[oneRes ds'], s.ob⟩ ⟨[(hs.F ds ob).1], (hs.F ds ob).2⟩) →
            a.defers = [] ∧ ∃ v, (results fn a.tmps).run P w' = .ok v w' ∧ ∃ v' c', Ending.returned v = .returned v' ∧ Sat T X ⟨c0.mine, c0⟩ w c' ⟨[(hs.F ds ob).1], (hs.F ds ob).2⟩ { tmps := #[v'], defers := [] } w' := by
          intro ds' hg ⟨σ, h1⟩
          obtain ⟨vs, hr1, hr2⟩ := results_read hS' hr hg
          have hS2 := hS'.tms (ds := [oneRes ds']) (vs := #[if hh : vs.toArray.size = 1 then vs.toArray[0] else .tuple vs.toArray]) (by
            simp only [RdL]
            exact ⟨_, _, rfl, oneRes_read hr2, rfl⟩)
          refine ⟨hS'.dfs, if hh : vs.toArray.size = 1 then vs.toArray[0] else .tuple vs.toArray, ?_, _, _, rfl, hS2.le h1⟩
          rw [results_eq, Array.mapM_eq_mapM_toList]
          simp [hr1]
        cases e with
        | exit id => exact hq.elim
        | normal =>
          simp only [fnPostX] at hq
          split at hq
          · exact fin _ ‹_› hq
          · exact hq.elim
        | ret =>
          simp only [fnPostX] at hq
          split at hq
          · exact fin _ ‹_› hq
          · exact hq.elim
    · cases hc
  · cases hc
end
end Go.Vcg

namespace Go.Vcg

/-! ### Tables -/
def tb (gl : Nat → D) (l : List (Nat × Sp)) : Tb := ⟨fun k => l.lookup k, gl⟩
/-- The numbers of functions, those of hs from 1000000 on, those of ns from 2000000 on. -/
def kfOf (hs ns : List Nat) (f : Nat) : Nat := if hs.contains f then 1000000 + f else if ns.contains f then 2000000 + f else if f < 1000000 then f else 4000000 + f
def gl0 : Nat → D := fun _ => .any

theorem kfOf_no {hs ns : List Nat} (hb : hs.all (fun x => decide (x < 1000000)) = true) (hn : ns.all (fun x => decide (x < 1000000)) = true) (P : Program) : OvlAll P (kfOf hs ns) := by
  intro f hf
  unfold kfOf at hf
  split at hf
  · omega
  · split at hf
    · omega
    · split at hf <;> omega
theorem TbOK.nil {P : Program} {kf : Nat → Nat} {gl : Nat → D} (ho : OvlAll P kf := by exact kfOf_no (by decide) (by decide) _) : TbOK P kf (tb gl []) :=
  ⟨fun f sp h => by simp [tb, List.lookup] at h, fun f sp _ h => by simp [tb, List.lookup] at h, fun f sp _ h => by simp [tb, List.lookup] at h, ho⟩

/-- A function that is proved by another road. -/
theorem TbOK.consG {P : Program} {kf : Nat → Nat} {gl : Nat → D} {l : List (Nat × Sp)} (h : TbOK P kf (tb gl l)) {f k : Nat} (hk : ∀ g, kf g = k → g = f) (he : Enters P f) {sp : Sp} (hme : FOK P (tb gl l) f sp)
    (hkk : k = f ∨ k = 1000000 + f ∨ k = 2000000 + f := by first | exact .inl rfl | exact .inr (.inl rfl) | exact .inr (.inr rfl)) (hf1 : f < 1000000 := by decide) :
    TbOK P kf (tb gl ((k, sp) :: l)) := by
  have key : ∀ {g : Nat} {sp2 : Sp}, FOK P (tb gl l) g sp2 → FOK P (tb gl ((k, sp) :: l)) g sp2 := by
    intro g sp2 h
    unfold FOK at h ⊢
    cases hx : sp2.hx with
    | none => rw [hx] at h; exact h
    | some hs =>
      rw [hx] at h
      simp only at h ⊢
      intro X w c args ds ob hS hob hpre
      refine (h X w c args ds ob ⟨hS.live, hS.tm, hS.ob, hS.inj, hS.fresh, hS.ext, hS.gl, hS.Xb, hS.rv1, hS.dfs, hS.base, hS.owf, hS.owi⟩ hob hpre).mono fun e w' ⟨v, c', h1, h2⟩ => ?_
      exact ⟨v, c', h1, ⟨h2.live, h2.tm, h2.ob, h2.inj, h2.fresh, h2.ext, h2.gl, h2.Xb, h2.rv1, h2.dfs, h2.base, h2.owf, h2.owi⟩⟩
  have me : FOK P (tb gl ((k, sp) :: l)) f sp ∧ Enters P f := ⟨key hme, he⟩
  have at_ : ∀ {g n : Nat} {sp' : Sp}, (tb gl ((k, sp) :: l)).sp n = some sp' → (n = k → g = f) → (∀ sp', (tb gl l).sp n = some sp' → FOK P (tb gl l) g sp' ∧ Enters P g) → FOK P (tb gl ((k, sp) :: l)) g sp' ∧ Enters P g := by
    intro g n sp' hg hn hold
    simp only [tb] at hg
    by_cases hfg : n = k
    · have hgf := hn hfg
      subst hgf
      rw [hfg] at hg
      simp only [List.lookup, beq_self_eq_true, Option.some.injEq] at hg
      subst hg
      exact me
    · have hne : (n == k) = false := by simpa using hfg
      simp only [List.lookup, hne] at hg
      obtain ⟨h1, h2⟩ := hold sp' hg
      exact ⟨key h1, h2⟩
  refine ⟨fun g sp' hg => at_ hg (hk g) (h.1 g), fun g sp' hg1 hg => at_ hg (fun e => ?_) (fun sp' hs => h.2.1 g sp' hg1 hs), fun g sp' hg1 hg => at_ hg (fun e => ?_) (fun sp' hs => h.2.2.1 g sp' hg1 hs), h.2.2.2⟩ <;> omega

theorem TbOK.cons {P : Program} {kf : Nat → Nat} {gl : Nat → D} {l : List (Nat × Sp)} (h : TbOK P kf (tb gl l)) {f k : Nat} (hk : ∀ g, kf g = k → g = f) {fn : Func} (hf : P.funcs[f]? = some fn) (he : Enters P f) {ifn : IFn} (hc : cFn P kf fn = some ifn.er) {sp : Sp} (hv : Verified (tb gl l) ifn sp)
    (hkk : k = f ∨ k = 1000000 + f ∨ k = 2000000 + f := by first | exact .inl rfl | exact .inr (.inl rfl) | exact .inr (.inr rfl)) (hf1 : f < 1000000 := by decide) :
    TbOK P kf (tb gl ((k, sp) :: l)) := h.consG hk he (FOK.of h hf hc hv) hkk hf1

theorem kfOf_lt {hs ns : List Nat} {f : Nat} (hf : f < 1000000) : ∀ g, kfOf hs ns g = f → g = f := by
  intro g hg
  unfold kfOf at hg
  repeat' (split at hg)
  all_goals omega
theorem lt_of_all {hs : List Nat} (hb : hs.all (fun x => decide (x < 1000000)) = true) {g : Nat} (h : hs.contains g = true) : g < 1000000 := by
  rw [List.all_eq_true] at hb
  have := hb g (by simpa using h)
  simpa using this
theorem kfOf_ge {hs ns : List Nat} {f : Nat} (hf : f < 1000000) (hb : hs.all (fun x => decide (x < 1000000)) = true) (hn : ns.all (fun x => decide (x < 1000000)) = true) : ∀ g, kfOf hs ns g = 1000000 + f → g = f := by
  intro g hg
  unfold kfOf at hg
  split at hg
  · omega
  · split at hg
    · rename_i h; have := lt_of_all hn h; omega
    · split at hg <;> omega
theorem kfOf_new {hs ns : List Nat} {f : Nat} (hf : f < 1000000) (hb : hs.all (fun x => decide (x < 1000000)) = true) (hn : ns.all (fun x => decide (x < 1000000)) = true) : ∀ g, kfOf hs ns g = 2000000 + f → g = f := by
  intro g hg
  unfold kfOf at hg
  split at hg
  · rename_i h; have := lt_of_all hb h; omega
  · split at hg
    · omega
    · split at hg <;> omega

/-- The numbers of functions, where those of o are slices.overlaps. -/
def kfO (o : List Nat) (hs ns : List Nat) (f : Nat) : Nat := if o.contains f = true then 3000000 + f else kfOf hs ns f
theorem kfO_lt {o : List Nat} {hs ns : List Nat} {f : Nat} (hf : f < 1000000) : ∀ g, kfO o hs ns g = f → g = f := by
  intro g hg
  unfold kfO at hg
  split at hg
  · omega
  · exact kfOf_lt hf g hg
theorem kfO_ge {o : List Nat} {hs ns : List Nat} {f : Nat} (hf : f < 1000000) (hb : hs.all (fun x => decide (x < 1000000)) = true) (hn : ns.all (fun x => decide (x < 1000000)) = true) : ∀ g, kfO o hs ns g = 1000000 + f → g = f := by
  intro g hg
  unfold kfO at hg
  split at hg
  · omega
  · exact kfOf_ge hf hb hn g hg
theorem kfO_new {o : List Nat} {hs ns : List Nat} {f : Nat} (hf : f < 1000000) (hb : hs.all (fun x => decide (x < 1000000)) = true) (hn : ns.all (fun x => decide (x < 1000000)) = true) : ∀ g, kfO o hs ns g = 2000000 + f → g = f := by
  intro g hg
  unfold kfO at hg
  split at hg
  · omega
  · exact kfOf_new hf hb hn g hg
theorem kfO_ovl {o : List Nat} {hs ns : List Nat} {P : Program} (hb : hs.all (fun x => decide (x < 1000000)) = true) (hn : ns.all (fun x => decide (x < 1000000)) = true) (ho : ∀ f ∈ o, OvlOK P f) : OvlAll P (kfO o hs ns) := by
  intro f hf
  unfold kfO at hf
  split at hf
  · rename_i e; exact ho f (by simpa using e)
  · exact kfOf_no hb hn P f hf

/-- A function that answers true. -/
theorem FOK.bool {P : Program} {T : Tb} {f : Nat} {sp : Sp} (h : FOK P T f sp) (hx : sp.hx = none) {w : World} {args : Array Value} {ds : List D} (hgl : ∀ i, Rd (fun _ => False) w none (T.gl i) (.pointer (some ⟨i, 0, none⟩)))
    (hr : RdL (fun _ => False) w none ds args.toList) (hp : sp.pre ds) (hF : sp.F ds = .bool true) : Calls P f args w fun e w' => e = .returned (.bool true) ∧ RowKit.Below w.heap.size w w' := by
  refine (h.plain hx (fun _ => False) w args ds (fun _ _ h => h) hgl hr hp).mono fun e w' ⟨v, he, hv, hE⟩ => ?_
  rw [hF] at hv
  simp only [Rd] at hv
  exact ⟨by rw [he, hv], hE.below fun _ _ h => h⟩

theorem inR_of_wf {n : Int} (h : (Lit.int .i64 n).wf = true) : inR .i64 n := by
  simp only [Lit.wf, Bool.and_eq_true, decide_eq_true_eq, IntKind.min, IntKind.max, IntKind.signed, IntKind.bits] at h
  simp only [inR]
  simpa using h
end Go.Vcg

namespace Go.Vcg

/-! ### What comes behind, as a list -/
inductive Fr where
  | seq (b : IC)
  | blk (id : Nat)
  | lp (P : St → Prop)
  | cut (P : St → Prop)

/-- What is asked where the code at hand ends. -/
def Kf (T : Tb) : List Fr → (Ex → St → Prop) → Ex → St → Prop
  | [], Q => Q
  | .seq b :: K, Q => fun e s' => match e with | .normal => VC T b (Kf T K Q) s' | .exit i => Kf T K Q (.exit i) s' | .ret => Kf T K Q .ret s'
  | .blk id :: K, Q => fun e s' => match e with | .exit i => if i = id then Kf T K Q .normal s' else Kf T K Q (.exit i) s' | .normal => Kf T K Q .normal s' | .ret => Kf T K Q .ret s'
  | .lp P :: K, Q => fun e s' => match e with | .normal => P s' | .exit i => Kf T K Q (.exit i) s' | .ret => Kf T K Q .ret s'
  | .cut P :: K, Q => fun e s' => match e with | .normal => P s' | .exit i => Kf T K Q (.exit i) s' | .ret => Kf T K Q .ret s'

section
variable {T : Tb} {K : List Fr} {Q : Ex → St → Prop} {s : St}
theorem k_seq {a b : IC} : VC T (.seq a b) (Kf T K Q) s = VC T a (Kf T (.seq b :: K) Q) s := rfl
theorem k_block {id : Nat} {b : IC} : VC T (.block id b) (Kf T K Q) s = VC T b (Kf T (.blk id :: K) Q) s := rfl
theorem k_skip : VC T .skip (Kf T K Q) s = Kf T K Q .normal s := rfl
theorem k_reg {ops : List IOper} : VC T (.reg ops) (Kf T K Q) s = VCopsG T ops (Kf T K Q .normal) s := rfl
theorem k_mrk {ops : List IOper} {b : IC} (h : ops.all IOper.gh = true) : VC T (.mrk ops b) (Kf T K Q) s = VCopsG T ops (Kf T (.seq b :: K) Q .normal) s := by
  rw [show VC T (.mrk ops b) (Kf T K Q) s = (ops.all IOper.gh = true ∧ VCopsG T ops (Kf T (.seq b :: K) Q .normal) s) from rfl, h]
  simp
theorem k_mrq {ops : List IOper} {b : IC} (h : ops.all IOper.gh = true) : VC T (.mrq b ops) (Kf T K Q) s = VC T b (Kf T (.seq (.reg ops) :: K) Q) s := by
  have e : Kf T (.seq (.reg ops) :: K) Q = (fun e s' => match e with | .normal => VCopsG T ops (Kf T K Q .normal) s' | .exit i => Kf T K Q (.exit i) s' | .ret => Kf T K Q .ret s') := by
    funext e s'; cases e <;> rfl
  rw [e]
  exact propext ⟨fun q => q.2, fun q => ⟨h, q⟩⟩
theorem k_alt {ls : List (List IOper)} : VC T (.alt ls) (Kf T K Q) s = VCalt T (Kf T K Q .normal) s ls := rfl
theorem k_bad : VC T .bad (Kf T K Q) s = False := rfl
/-- A cut: a family of states. -/
theorem k_cut {a b : IC} {ι : Type} (I : ι → St) (h1 : ∀ (P : St → Prop), (∀ (s' : St) (σ : List (Nat × Option Nat)) (y : ι), s'.le σ (I y) → P s') → VC T a (Kf T (.cut P :: K) Q) s) (h2 : ∀ x, VC T b (Kf T K Q) (I x)) : VC T (.seqc a b) (Kf T K Q) s := by
  refine ⟨ι, I, ?_, h2⟩
  have := h1 (fun s' => ∃ σ x, s'.le σ (I x)) (fun s' σ y h => ⟨σ, y, h⟩)
  have e : Kf T (.cut (fun s' => ∃ σ x, s'.le σ (I x)) :: K) Q = (fun e s' => match e with | .normal => ∃ σ x, s'.le σ (I x) | .exit i => Kf T K Q (.exit i) s' | .ret => Kf T K Q .ret s') := by
    funext e s'; cases e <;> rfl
  rw [e] at this
  exact this
theorem k_cond {c : Opd} {a b : IC} : VC T (.cond c a b) (Kf T K Q) s = (match c.ev T s with
    | .bool t => (t = true → VC T a (Kf T K Q) s) ∧ (t = false → VC T b (Kf T K Q) s)
    | .ub => VC T a (Kf T K Q) s ∧ VC T b (Kf T K Q) s
    | _ => False) := rfl
theorem k_exit {id : Nat} : VC T (.exit id) (Kf T K Q) s = Kf T K Q (.exit id) s := rfl
theorem k_ret : VC T .ret (Kf T K Q) s = Kf T K Q .ret s := rfl
theorem kf_nil {e : Ex} : Kf T [] Q e s = Q e s := rfl
theorem kf_seq_n {b : IC} : Kf T (.seq b :: K) Q .normal s = VC T b (Kf T K Q) s := rfl
theorem kf_seq_e {b : IC} {i : Nat} : Kf T (.seq b :: K) Q (.exit i) s = Kf T K Q (.exit i) s := rfl
theorem kf_seq_r {b : IC} : Kf T (.seq b :: K) Q .ret s = Kf T K Q .ret s := rfl
theorem kf_blk_n {id : Nat} : Kf T (.blk id :: K) Q .normal s = Kf T K Q .normal s := rfl
theorem kf_blk_e {id i : Nat} : Kf T (.blk id :: K) Q (.exit i) s = if i = id then Kf T K Q .normal s else Kf T K Q (.exit i) s := rfl
theorem kf_blk_r {id : Nat} : Kf T (.blk id :: K) Q .ret s = Kf T K Q .ret s := rfl
theorem kf_lp_n {P : St → Prop} : Kf T (.lp P :: K) Q .normal s = P s := rfl
theorem kf_lp_e {P : St → Prop} {i : Nat} : Kf T (.lp P :: K) Q (.exit i) s = Kf T K Q (.exit i) s := rfl
theorem kf_lp_r {P : St → Prop} : Kf T (.lp P :: K) Q .ret s = Kf T K Q .ret s := rfl
theorem kf_cut_n {P : St → Prop} : Kf T (.cut P :: K) Q .normal s = P s := rfl
theorem kf_cut_e {P : St → Prop} {i : Nat} : Kf T (.cut P :: K) Q (.exit i) s = Kf T K Q (.exit i) s := rfl
theorem kf_cut_r {P : St → Prop} : Kf T (.cut P :: K) Q .ret s = Kf T K Q .ret s := rfl

theorem VCou_mono {k : Nat} {Q Q' : St → Prop} (hQ : ∀ s, Q s → Q' s) : ∀ {l : List (Nat × Nat)} {s : St}, VCou k Q l s → VCou k Q' l s
  | [], s, h => hQ s h
  | (o, n) :: l, s, h => by
    simp only [VCou] at h ⊢
    split at h
    · split at h
      · exact ⟨h.1, VCou_mono hQ h.2⟩
      · exact ⟨h.1, VCou_mono hQ h.2⟩
      · exact h
    · exact h
theorem VCcx_mono {k : Nat} {Q Q' : St → Prop} (hQ : ∀ s, Q s → Q' s) : ∀ {l : List Nat} {s : St}, VCcx k Q l s → VCcx k Q' l s
  | [], s, h => by
    simp only [VCcx] at h ⊢
    split at h
    · exact ⟨h.1, hQ _ h.2⟩
    · exact h
  | o :: l, s, h => by
    simp only [VCcx] at h ⊢
    split at h
    · split at h
      · split at h
        · exact ⟨h.1, VCcx_mono hQ h.2⟩
        · exact h
      · exact VCcx_mono hQ h
      · split at h
        · exact ⟨h.1, VCcx_mono hQ h.2⟩
        · exact h
      · exact h
    · exact h
theorem VCopsG_mono {Q Q' : St → Prop} (hQ : ∀ s, Q s → Q' s) : ∀ {l : List IOper} {s : St}, VCopsG T l Q s → VCopsG T l Q' s
  | [], s, h => hQ s h
  | o :: r, s, h => by
    unfold VCopsG at h ⊢
    split at h
    · exact VCopsG_mono hQ h
    · split at h
      · split at h
        · exact ⟨fun e => VCopsG_mono hQ (h.1 e), fun m hm => VCopsG_mono hQ (h.2 m hm)⟩
        · exact ⟨fun e => VCopsG_mono hQ (h.1 e), fun m hm => VCopsG_mono hQ (h.2 m hm)⟩
        · exact h
      · exact h
    · split at h
      · split at h
        · exact ⟨h.1, VCopsG_mono hQ h.2⟩
        · exact ⟨h.1, VCopsG_mono hQ h.2⟩
        · exact h
      · exact VCopsG_mono hQ h
      · exact h
    · split at h
      · split at h
        · exact ⟨h.1, VCou_mono (fun s hs => VCopsG_mono hQ hs) h.2⟩
        · exact ⟨h.1, VCou_mono (fun s hs => VCopsG_mono hQ hs) h.2⟩
        · exact h
      · exact h
    · split at h
      · exact VCcx_mono (fun s hs => VCopsG_mono hQ hs) h
      · exact h
    · split at h
      · split at h
        · exact ⟨h.1, VCopsG_mono hQ h.2⟩
        · exact h
      · exact h
    · match r, h with
      | [], h => exact h
      | o2 :: r2, h =>
        simp only at h ⊢
        split at h
        · split at h
          · exact ⟨h.1, h.2.1, VCopsG_mono hQ h.2.2⟩
          · exact h
        · exact h
    · match r, h with
      | [], h => exact h
      | o2 :: r2, h =>
        simp only at h ⊢
        split at h
        · split at h
          · split at h
            · exact ⟨h.1, VCopsG_mono hQ h.2⟩
            · exact h
          · exact h
        · exact h
    · split at h
      · exact ⟨h.1, VCopsG_mono hQ h.2⟩
      · exact h
/-- What is asked may be weakened. -/
theorem VC_mono : ∀ (c : IC) {Q Q' : Ex → St → Prop} {s : St}, (∀ e s, Q e s → Q' e s) → VC T c Q s → VC T c Q' s
  | .skip, Q, Q', s, h, hv => h _ _ hv
  | .reg ops, Q, Q', s, h, hv => VCopsG_mono (h _) hv
  | .alt ls, Q, Q', s, h, hv => by
    simp only [VC] at hv ⊢
    induction ls with
    | nil => trivial
    | cons l r ih =>
      refine ⟨?_, ih hv.2⟩
      have h1 := hv.1
      split at h1
      · rename_i hm; rw [if_pos hm]; exact VCopsM_mono (h _) h1
      · rename_i hm; rw [if_neg hm]; exact VCops_mono (h _) h1
  | .seq a b, Q, Q', s, h, hv => by
    simp only [VC] at hv ⊢
    refine VC_mono a (fun e s' hq => ?_) hv
    cases e with
    | normal => exact VC_mono b h hq
    | exit i => exact h _ _ hq
    | ret => exact h _ _ hq
  | .seqc a b, Q, Q', s, h, hv => by
    simp only [VC] at hv ⊢
    obtain ⟨ι, I, h1, h2⟩ := hv
    refine ⟨ι, I, VC_mono a (fun e s' hq => ?_) h1, fun x => VC_mono b h (h2 x)⟩
    cases e with
    | normal => exact hq
    | exit i => exact h _ _ hq
    | ret => exact h _ _ hq
  | .mrk ops b, Q, Q', s, h, hv => by
    simp only [VC] at hv ⊢
    exact ⟨hv.1, VCopsG_mono (fun s hs => VC_mono b h hs) hv.2⟩
  | .mrq b ops, Q, Q', s, h, hv => by
    simp only [VC] at hv ⊢
    refine ⟨hv.1, VC_mono b (fun e s' hq => ?_) hv.2⟩
    cases e with
    | normal => exact VCopsG_mono (fun s hs => h _ _ hs) hq
    | exit i => exact h _ _ hq
    | ret => exact h _ _ hq
  | .bad, Q, Q', s, h, hv => hv
  | .cond c a b, Q, Q', s, h, hv => by
    simp only [VC] at hv ⊢
    split at hv
    · exact ⟨fun e => VC_mono a h (hv.1 e), fun e => VC_mono b h (hv.2 e)⟩
    · exact ⟨VC_mono a h hv.1, VC_mono b h hv.2⟩
    · exact hv.elim
  | .block id b, Q, Q', s, h, hv => by
    simp only [VC] at hv ⊢
    refine VC_mono b (fun e s' hq => ?_) hv
    cases e with
    | normal => exact h _ _ hq
    | exit i =>
      simp only at hq ⊢
      split
      · rename_i hi; rw [if_pos hi] at hq; exact h _ _ hq
      · rename_i hi; rw [if_neg hi] at hq; exact h _ _ hq
    | ret => exact h _ _ hq
  | .loop b, Q, Q', s, h, hv => by
    simp only [VC] at hv ⊢
    obtain ⟨ι, I, μ, h1, h2⟩ := hv
    refine ⟨ι, I, μ, h1, fun x => VC_mono b (fun e s' hq => ?_) (h2 x)⟩
    cases e with
    | normal => exact hq
    | exit i => exact h _ _ hq
    | ret => exact h _ _ hq
  | .exit id, Q, Q', s, h, hv => h _ _ hv
  | .ret, Q, Q', s, h, hv => h _ _ hv

/-- A loop: a family of states, a measure. -/
theorem k_loop {b : IC} {ι : Type} (I : ι → St) (μ : ι → Nat) (σ0 : List (Nat × Option Nat)) (x0 : ι) (h0 : s.le σ0 (I x0))
    (h : ∀ (x : ι) (P : St → Prop), (∀ (s' : St) (σ : List (Nat × Option Nat)) (y : ι), s'.le σ (I y) → μ y < μ x → P s') → VC T b (Kf T (.lp P :: K) Q) (I x)) : VC T (.loop b) (Kf T K Q) s := by
  refine ⟨ι, I, μ, ⟨σ0, x0, .inr h0⟩, fun x => ?_⟩
  refine VC_mono b (fun e s' hq => ?_) (h x (fun s' => ∃ σ y, s'.leq σ (I y) ∧ μ y < μ x) fun s' σ y h1 h2 => ⟨σ, y, .inr h1, h2⟩)
  cases e <;> exact hq

/-- A function: from its arguments on. -/
theorem Verified.mk {fn : IFn} {sp : Sp} (h : ∀ ds, sp.pre ds → VC T fn.body (Kf T [] (fnPost fn.res (sp.F ds))) ⟨ds ++ List.replicate (fn.n - ds.length) .any, []⟩) (hx : sp.hx = none := by rfl) : Verified T fn sp := by
  unfold Verified
  rw [hx]
  exact h
/-- A function that is handed objects. -/
theorem Verified.mkx {fn : IFn} {sp : Sp} {hs : HSp} (hx : sp.hx = some hs) (h : ∀ ds ob, hs.pre ds ob → (∀ R : St → Prop, (∀ s σ, St.le σ s ⟨[(hs.F ds ob).1], (hs.F ds ob).2⟩ → R s) → VC T fn.body (Kf T [] (fun e s => match e with | .exit _ => False | _ => match getRes s fn.res with | some ds' => R ⟨[oneRes ds'], s.ob⟩ | none => False)) ⟨ds ++ List.replicate (fn.n - ds.length) .any, ob⟩)) : Verified T fn sp := by
  unfold Verified
  rw [hx]
  intro ds ob hp hb
  have := h ds ob hp (fun s => ∃ σ, St.le σ s ⟨[(hs.F ds ob).1], (hs.F ds ob).2⟩) (fun s σ hle => ⟨σ, hle⟩)
  refine VC_mono _ (fun e s hq => ?_) this
  cases e with
  | exit i => exact hq
  | normal => simp only [Kf, fnPostX] at hq ⊢; exact hq
  | ret => simp only [Kf, fnPostX] at hq ⊢; exact hq

theorem elem_cons_zero {x : List D} {r : List (List D)} : elem (x :: r) 0 = x := rfl
theorem elem_cons {x : List D} {r : List (List D)} {n : Nat} : elem (x :: r) n = if n = 0 then x else elem r (n - 1) := by
  cases n <;> simp [elem]
theorem elem_map {α : Type} (f : α → List D) (l : List α) (i : Nat) (h : i < l.length) : elem (l.map f) i = f l[i] := by
  simp [elem, h]

/-- Slots from i on, n of them, of which some are known. -/
def mkTm : Nat → Nat → List (Nat × D) → List D
  | 0, _, _ => []
  | n + 1, i, l => (match l.lookup i with | some d => d | none => .any) :: mkTm n (i + 1) l
end
end Go.Vcg

namespace Go.Vcg

/-! ### Arguments read -/
theorem rdE_ints {X : Nat → Prop} {w : World} : ∀ ns : List Int, RdE X w 1 (ns.map fun n => [.int .i64 n]) (ns.map fun n => Value.int .i64 n)
  | [] => by simp [RdE]
  | n :: ns => by
    simp only [List.map_cons, RdE]
    exact ⟨[.int .i64 n], _, rfl, rfl, by simp [RdL, Rd], rdE_ints ns⟩

theorem cell_block {w : World} {b o : Nat} {v : Value} (h : w.cell? ⟨b, o, none⟩ = some v) : ∃ arr T fr, w.heap[b]? = some (.cells arr T fr) ∧ arr[o]? = some v := by
  unfold World.cell? at h
  cases hb : w.heap[b]? with
  | none => simp [hb] at h
  | some ob =>
    cases ob <;> simp [hb] at h
    exact ⟨_, _, _, rfl, h⟩

section
variable {H : Type} {enc : TypeId × Value → H} {P : Program} {W : World} {r : Reach} {b0 : Nat}
theorem ints_read {t e : TypeId} (ht : P.underlying t = some (.slice e)) (he : P.underlying e = some (.int .i64)) (hc : P.cellsOf e = 1) {v : Value} {d : DataW H} {ps : List MemPlace} (hval : Value.okWide P W r b0 t v)
    (h : DataW.Trod enc P W 0 (fun _ => true) true t v d ps) : ∃ ns : List Int, Rd (fun _ => False) W none (.fz 1 (ns.map fun n => [.int .i64 n])) v ∧ (∀ n ∈ ns, inR .i64 n) ∧ ns.length ≤ maxLen := by
  obtain ⟨a0, len0, cap0, rfl⟩ := WideShapes.okWide_slice ht hval
  obtain ⟨fuel, hf⟩ := h
  rcases ChangeShapes.open_ints ht he hc hf with ⟨hcs, hx⟩ | ⟨a, len, cap, zs, hcs, _, hle, hmax, hall, hx, hcell, hwf⟩
  · simp [Value.cells] at hcs
    obtain ⟨rfl, rfl, rfl⟩ := hcs
    exact ⟨[], by simp only [Rd]; exact .inl ⟨⟨_, rfl⟩, rfl⟩, by simp, by simp⟩
  · simp [Value.cells] at hcs
    obtain ⟨rfl, rfl, rfl⟩ := hcs
    simp only [if_true] at hall
    refine ⟨zs.take len0, ?_, fun n hn => inR_of_wf (hwf n (List.mem_of_mem_take hn)), by simp; omega⟩
    have hlen : ((zs.take len0).map fun n => ([.int .i64 n] : List D)).length = len0 := by simp; omega
    simp only [Rd]
    by_cases hp : 0 < zs.length
    · obtain ⟨b, off, rfl, hc2⟩ := ints_at hcell hp
      refine .inr ⟨b, off, cap0, (zs.take len0).map fun n => .int .i64 n, by rw [hlen], by rw [hlen]; exact hle, hmax, fun h => h, ?_, rdE_ints _, fun u hu => ?_⟩
      · obtain ⟨arr, T, fr, h1, _⟩ := cell_block (hc2 0 hp)
        refine ⟨arr, T, fr, h1, fun j u hu => ?_⟩
        obtain ⟨n, hn, rfl⟩ : ∃ n, (zs.take len0)[j]? = some n ∧ Value.int .i64 n = u := by rw [List.getElem?_map, Option.map_eq_some_iff] at hu; exact hu
        rw [List.getElem?_take] at hn
        split at hn
        · have hj : j < zs.length := (List.getElem?_eq_some_iff.1 hn).1
          obtain ⟨arr', T', fr', g1, g2⟩ := cell_block (hc2 j hj)
          rw [h1] at g1
          simp only [Option.some.injEq, Obj.cells.injEq] at g1
          obtain ⟨rfl, _, _⟩ := g1
          rw [g2]
          simp [List.getD, hn]
        · cases hn
      · obtain ⟨n, _, rfl⟩ := List.mem_map.1 hu
        rfl
    · have h0 : zs.length = 0 := by omega
      have hc0 : cap0 = 0 := by omega
      have hl0 : len0 = 0 := by omega
      subst hc0 hl0
      exact .inl ⟨⟨_, rfl⟩, by simp⟩

/-- The arguments read as they did. -/
theorem trodAll_below (hl : laidOutB P = true) {W' : World} (hb : RowKit.Below W.heap.size W W') : ∀ {ts : List TypeId} {vs : List Value} {ds : List (DataW H)} {ps : List MemPlace}, (ts.all fun t => P.readableRec t && decide (t < P.types.size)) = true →
    DataW.TrodAll enc P W 0 (fun _ => true) true ts vs ds ps → (∀ x ∈ ps, x.block < W.heap.size) → DataW.TrodAll enc P W' 0 (fun b => decide (b < W.heap.size)) true ts vs ds ps
  | [], [], [], ps, _, h, _ => h
  | t :: ts, v :: vs, d :: ds, ps, hr, h, hlt => by
    simp only [List.all_cons, Bool.and_eq_true, decide_eq_true_eq] at hr
    obtain ⟨p, q, h1, h2, rfl⟩ := h
    exact ⟨p, q, RowKit.Below.trod hl hr.1.1 hr.1.2 h1 hb (fun x hx => hlt x (by simp [hx])), trodAll_below hl hb hr.2 h2 (fun x hx => hlt x (by simp [hx])), rfl⟩
  | [], _ :: _, _, _, _, h, _ => h.elim
  | [], [], _ :: _, _, _, h, _ => h.elim
  | _ :: _, [], _, _, _, h, _ => h.elim
  | _ :: _, _ :: _, [], _, _, h, _ => h.elim
end
end Go.Vcg

namespace Go.Vcg

/-! ### Slots, quickly -/
theorem get_mk (tm : List D) (ob : List (Nat × Ob)) (t : Nat) : St.get ⟨tm, ob⟩ t = gtO tm t := congrArg id rfl
theorem set_mk (tm : List D) (ob : List (Nat × Ob)) (t : Nat) (d : D) : St.set ⟨tm, ob⟩ (some t) d = ⟨stO tm t d, ob⟩ := congrArg id rfl
theorem set_mk0 (tm : List D) (ob : List (Nat × Ob)) (d : D) : St.set ⟨tm, ob⟩ none d = ⟨tm, ob⟩ := rfl
theorem tget16 {d0 d1 d2 d3 d4 d5 d6 d7 d8 d9 d10 d11 d12 d13 d14 d15 : D} {r : List D} {n : Nat} (h : 16 ≤ n) : gtO (d0 :: d1 :: d2 :: d3 :: d4 :: d5 :: d6 :: d7 :: d8 :: d9 :: d10 :: d11 :: d12 :: d13 :: d14 :: d15 :: r) n = gtO r (n - 16) := by
  obtain ⟨m, rfl⟩ : ∃ m, n = m + 16 := ⟨n - 16, by omega⟩
  rw [Nat.add_sub_cancel, gtO_eq, gtO_eq]; rfl
theorem tset16 {d0 d1 d2 d3 d4 d5 d6 d7 d8 d9 d10 d11 d12 d13 d14 d15 : D} {r : List D} {n : Nat} {x : D} (h : 16 ≤ n) : stO (d0 :: d1 :: d2 :: d3 :: d4 :: d5 :: d6 :: d7 :: d8 :: d9 :: d10 :: d11 :: d12 :: d13 :: d14 :: d15 :: r) n x = d0 :: d1 :: d2 :: d3 :: d4 :: d5 :: d6 :: d7 :: d8 :: d9 :: d10 :: d11 :: d12 :: d13 :: d14 :: d15 :: stO r (n - 16) x := by
  obtain ⟨m, rfl⟩ : ∃ m, n = m + 16 := ⟨n - 16, by omega⟩
  rw [Nat.add_sub_cancel, stO_eq, stO_eq]; rfl
theorem tget_0 {d0 : D} {r : List D} : gtO (d0 :: r) 0 = d0 := by rw [gtO_eq]; rfl
theorem tset_0 {d0 : D} {r : List D} {x : D} : stO (d0 :: r) 0 x = x :: r := by rw [stO_eq]; rfl
theorem tget_1 {d0 d1 : D} {r : List D} : gtO (d0 :: d1 :: r) 1 = d1 := by rw [gtO_eq]; rfl
theorem tset_1 {d0 d1 : D} {r : List D} {x : D} : stO (d0 :: d1 :: r) 1 x = d0 :: x :: r := by rw [stO_eq]; rfl
theorem tget_2 {d0 d1 d2 : D} {r : List D} : gtO (d0 :: d1 :: d2 :: r) 2 = d2 := by rw [gtO_eq]; rfl
theorem tset_2 {d0 d1 d2 : D} {r : List D} {x : D} : stO (d0 :: d1 :: d2 :: r) 2 x = d0 :: d1 :: x :: r := by rw [stO_eq]; rfl
theorem tget_3 {d0 d1 d2 d3 : D} {r : List D} : gtO (d0 :: d1 :: d2 :: d3 :: r) 3 = d3 := by rw [gtO_eq]; rfl
theorem tset_3 {d0 d1 d2 d3 : D} {r : List D} {x : D} : stO (d0 :: d1 :: d2 :: d3 :: r) 3 x = d0 :: d1 :: d2 :: x :: r := by rw [stO_eq]; rfl
theorem tget_4 {d0 d1 d2 d3 d4 : D} {r : List D} : gtO (d0 :: d1 :: d2 :: d3 :: d4 :: r) 4 = d4 := by rw [gtO_eq]; rfl
theorem tset_4 {d0 d1 d2 d3 d4 : D} {r : List D} {x : D} : stO (d0 :: d1 :: d2 :: d3 :: d4 :: r) 4 x = d0 :: d1 :: d2 :: d3 :: x :: r := by rw [stO_eq]; rfl
theorem tget_5 {d0 d1 d2 d3 d4 d5 : D} {r : List D} : gtO (d0 :: d1 :: d2 :: d3 :: d4 :: d5 :: r) 5 = d5 := by rw [gtO_eq]; rfl
theorem tset_5 {d0 d1 d2 d3 d4 d5 : D} {r : List D} {x : D} : stO (d0 :: d1 :: d2 :: d3 :: d4 :: d5 :: r) 5 x = d0 :: d1 :: d2 :: d3 :: d4 :: x :: r := by rw [stO_eq]; rfl
theorem tget_6 {d0 d1 d2 d3 d4 d5 d6 : D} {r : List D} : gtO (d0 :: d1 :: d2 :: d3 :: d4 :: d5 :: d6 :: r) 6 = d6 := by rw [gtO_eq]; rfl
theorem tset_6 {d0 d1 d2 d3 d4 d5 d6 : D} {r : List D} {x : D} : stO (d0 :: d1 :: d2 :: d3 :: d4 :: d5 :: d6 :: r) 6 x = d0 :: d1 :: d2 :: d3 :: d4 :: d5 :: x :: r := by rw [stO_eq]; rfl
theorem tget_7 {d0 d1 d2 d3 d4 d5 d6 d7 : D} {r : List D} : gtO (d0 :: d1 :: d2 :: d3 :: d4 :: d5 :: d6 :: d7 :: r) 7 = d7 := by rw [gtO_eq]; rfl
theorem tset_7 {d0 d1 d2 d3 d4 d5 d6 d7 : D} {r : List D} {x : D} : stO (d0 :: d1 :: d2 :: d3 :: d4 :: d5 :: d6 :: d7 :: r) 7 x = d0 :: d1 :: d2 :: d3 :: d4 :: d5 :: d6 :: x :: r := by rw [stO_eq]; rfl
theorem tget_8 {d0 d1 d2 d3 d4 d5 d6 d7 d8 : D} {r : List D} : gtO (d0 :: d1 :: d2 :: d3 :: d4 :: d5 :: d6 :: d7 :: d8 :: r) 8 = d8 := by rw [gtO_eq]; rfl
theorem tset_8 {d0 d1 d2 d3 d4 d5 d6 d7 d8 : D} {r : List D} {x : D} : stO (d0 :: d1 :: d2 :: d3 :: d4 :: d5 :: d6 :: d7 :: d8 :: r) 8 x = d0 :: d1 :: d2 :: d3 :: d4 :: d5 :: d6 :: d7 :: x :: r := by rw [stO_eq]; rfl
theorem tget_9 {d0 d1 d2 d3 d4 d5 d6 d7 d8 d9 : D} {r : List D} : gtO (d0 :: d1 :: d2 :: d3 :: d4 :: d5 :: d6 :: d7 :: d8 :: d9 :: r) 9 = d9 := by rw [gtO_eq]; rfl
theorem tset_9 {d0 d1 d2 d3 d4 d5 d6 d7 d8 d9 : D} {r : List D} {x : D} : stO (d0 :: d1 :: d2 :: d3 :: d4 :: d5 :: d6 :: d7 :: d8 :: d9 :: r) 9 x = d0 :: d1 :: d2 :: d3 :: d4 :: d5 :: d6 :: d7 :: d8 :: x :: r := by rw [stO_eq]; rfl
theorem tget_10 {d0 d1 d2 d3 d4 d5 d6 d7 d8 d9 d10 : D} {r : List D} : gtO (d0 :: d1 :: d2 :: d3 :: d4 :: d5 :: d6 :: d7 :: d8 :: d9 :: d10 :: r) 10 = d10 := by rw [gtO_eq]; rfl
theorem tset_10 {d0 d1 d2 d3 d4 d5 d6 d7 d8 d9 d10 : D} {r : List D} {x : D} : stO (d0 :: d1 :: d2 :: d3 :: d4 :: d5 :: d6 :: d7 :: d8 :: d9 :: d10 :: r) 10 x = d0 :: d1 :: d2 :: d3 :: d4 :: d5 :: d6 :: d7 :: d8 :: d9 :: x :: r := by rw [stO_eq]; rfl
theorem tget_11 {d0 d1 d2 d3 d4 d5 d6 d7 d8 d9 d10 d11 : D} {r : List D} : gtO (d0 :: d1 :: d2 :: d3 :: d4 :: d5 :: d6 :: d7 :: d8 :: d9 :: d10 :: d11 :: r) 11 = d11 := by rw [gtO_eq]; rfl
theorem tset_11 {d0 d1 d2 d3 d4 d5 d6 d7 d8 d9 d10 d11 : D} {r : List D} {x : D} : stO (d0 :: d1 :: d2 :: d3 :: d4 :: d5 :: d6 :: d7 :: d8 :: d9 :: d10 :: d11 :: r) 11 x = d0 :: d1 :: d2 :: d3 :: d4 :: d5 :: d6 :: d7 :: d8 :: d9 :: d10 :: x :: r := by rw [stO_eq]; rfl
theorem tget_12 {d0 d1 d2 d3 d4 d5 d6 d7 d8 d9 d10 d11 d12 : D} {r : List D} : gtO (d0 :: d1 :: d2 :: d3 :: d4 :: d5 :: d6 :: d7 :: d8 :: d9 :: d10 :: d11 :: d12 :: r) 12 = d12 := by rw [gtO_eq]; rfl
theorem tset_12 {d0 d1 d2 d3 d4 d5 d6 d7 d8 d9 d10 d11 d12 : D} {r : List D} {x : D} : stO (d0 :: d1 :: d2 :: d3 :: d4 :: d5 :: d6 :: d7 :: d8 :: d9 :: d10 :: d11 :: d12 :: r) 12 x = d0 :: d1 :: d2 :: d3 :: d4 :: d5 :: d6 :: d7 :: d8 :: d9 :: d10 :: d11 :: x :: r := by rw [stO_eq]; rfl
theorem tget_13 {d0 d1 d2 d3 d4 d5 d6 d7 d8 d9 d10 d11 d12 d13 : D} {r : List D} : gtO (d0 :: d1 :: d2 :: d3 :: d4 :: d5 :: d6 :: d7 :: d8 :: d9 :: d10 :: d11 :: d12 :: d13 :: r) 13 = d13 := by rw [gtO_eq]; rfl
theorem tset_13 {d0 d1 d2 d3 d4 d5 d6 d7 d8 d9 d10 d11 d12 d13 : D} {r : List D} {x : D} : stO (d0 :: d1 :: d2 :: d3 :: d4 :: d5 :: d6 :: d7 :: d8 :: d9 :: d10 :: d11 :: d12 :: d13 :: r) 13 x = d0 :: d1 :: d2 :: d3 :: d4 :: d5 :: d6 :: d7 :: d8 :: d9 :: d10 :: d11 :: d12 :: x :: r := by rw [stO_eq]; rfl
theorem tget_14 {d0 d1 d2 d3 d4 d5 d6 d7 d8 d9 d10 d11 d12 d13 d14 : D} {r : List D} : gtO (d0 :: d1 :: d2 :: d3 :: d4 :: d5 :: d6 :: d7 :: d8 :: d9 :: d10 :: d11 :: d12 :: d13 :: d14 :: r) 14 = d14 := by rw [gtO_eq]; rfl
theorem tset_14 {d0 d1 d2 d3 d4 d5 d6 d7 d8 d9 d10 d11 d12 d13 d14 : D} {r : List D} {x : D} : stO (d0 :: d1 :: d2 :: d3 :: d4 :: d5 :: d6 :: d7 :: d8 :: d9 :: d10 :: d11 :: d12 :: d13 :: d14 :: r) 14 x = d0 :: d1 :: d2 :: d3 :: d4 :: d5 :: d6 :: d7 :: d8 :: d9 :: d10 :: d11 :: d12 :: d13 :: x :: r := by rw [stO_eq]; rfl
theorem tget_15 {d0 d1 d2 d3 d4 d5 d6 d7 d8 d9 d10 d11 d12 d13 d14 d15 : D} {r : List D} : gtO (d0 :: d1 :: d2 :: d3 :: d4 :: d5 :: d6 :: d7 :: d8 :: d9 :: d10 :: d11 :: d12 :: d13 :: d14 :: d15 :: r) 15 = d15 := by rw [gtO_eq]; rfl
theorem tset_15 {d0 d1 d2 d3 d4 d5 d6 d7 d8 d9 d10 d11 d12 d13 d14 d15 : D} {r : List D} {x : D} : stO (d0 :: d1 :: d2 :: d3 :: d4 :: d5 :: d6 :: d7 :: d8 :: d9 :: d10 :: d11 :: d12 :: d13 :: d14 :: d15 :: r) 15 x = d0 :: d1 :: d2 :: d3 :: d4 :: d5 :: d6 :: d7 :: d8 :: d9 :: d10 :: d11 :: d12 :: d13 :: d14 :: x :: r := by rw [stO_eq]; rfl
end Go.Vcg

namespace Go.Vcg
/-! ### Short forms of operations, and a function's facts in one -/
def zI (n : Int) : D := .int .i64 n
def zC (n : Int) : Opd := .c (.int .i64 n)
def zw (d : Nat) (op : IOp) : IOper := ⟨some d, none, op⟩
def zz (op : IOp) : IOper := ⟨none, none, op⟩
def zg (t : Nat) (b : Bool) (o : IOper) : IOper := ⟨o.dst, some (t, b), o.op⟩
def zm (d x : Nat) : IOper := ⟨some d, none, .mov (.t x)⟩
def zi (d : Nat) (n : Int) : IOper := ⟨some d, none, .mov (.c (.int .i64 n))⟩
def zb (d : Nat) (b : Bool) : IOper := ⟨some d, none, .mov (.c (.bool b))⟩
def zf (d o x : Nat) : IOper := ⟨some d, none, .faddr o (.t x)⟩
def zl (d x : Nat) : IOper := ⟨some d, none, .load 1 false (.t x)⟩
def za (d n x : Nat) : IOper := ⟨some d, none, .load n true (.t x)⟩
def zs (n x y : Nat) : IOper := ⟨none, none, .store n (.t x) (.t y)⟩
def zn (d x : Nat) : IOper := ⟨some d, none, .nilc (.t x)⟩
def zo (d x y : Nat) : IOper := ⟨some d, none, .pick (.t x) (.c (.bool true)) (.t y)⟩
def zd (d x y : Nat) : IOper := ⟨some d, none, .pick (.t x) (.t y) (.c (.bool false))⟩
def zy (d sz x i : Nat) : IOper := ⟨some d, none, .iaddr sz (.t x) (.t i)⟩
def zu (d x : Nat) : IOper := ⟨some d, none, .box (.t x)⟩
def ze (d x i : Nat) : IOper := ⟨some d, none, .ext (.t x) i⟩
def zk (d x : Nat) : IOper := ⟨some d, none, .len (.t x)⟩
def zt (d x : Nat) : IOper := ⟨some d, none, .un .not (.t x)⟩
def zc (d : Nat) (op : BinOp) (x : Nat) (n : Int) : IOper := ⟨some d, none, .bin op (.t x) (.c (.int .i64 n))⟩
def zp (d : Nat) (op : BinOp) (x y : Nat) : IOper := ⟨some d, none, .bin op (.t x) (.t y)⟩
/-- Function f of the program stands under number k, and reads as ir. -/
structure Wf (P : Program) (kf : Nat → Nat) (k f : Nat) (fn : Func) (ir : IFn) : Prop where
  hk : ∀ g, kf g = k → g = f
  hf : P.funcs[f]? = some fn
  he : Enters P f
  hc : cFn P kf fn = some ir.er
theorem Wf.mk' {P : Program} {kf : Nat → Nat} {k f : Nat} {fn : Func} {ir : IFn} (h1 : ∀ g, kf g = k → g = f) (h2 : P.funcs[f]? = some fn) (h3 : fn.body.isSome = true) (h4 : (fn.name == "runtime.NumGoroutine") = false) (h5 : cFn P kf fn = some ir.er) : Wf P kf k f fn ir := ⟨h1, h2, enters_of h2 h3 h4, h5⟩
theorem TbOK.consW {P : Program} {kf : Nat → Nat} {gl : Nat → D} {l : List (Nat × Sp)} (h : TbOK P kf (tb gl l)) {f k : Nat} {fn : Func} {ir : IFn} (w : Wf P kf k f fn ir) {sp : Sp} (hv : Verified (tb gl l) ir sp)
    (hkk : k = f ∨ k = 1000000 + f ∨ k = 2000000 + f := by first | exact .inl rfl | exact .inr (.inl rfl) | exact .inr (.inr rfl)) (hf1 : f < 1000000 := by decide) :
    TbOK P kf (tb gl ((k, sp) :: l)) := h.cons w.hk w.hf w.he w.hc hv hkk hf1
theorem FOK.ofW {P : Program} {kf : Nat → Nat} {T : Tb} (hT : TbOK P kf T) {k f : Nat} {fn : Func} {ir : IFn} (w : Wf P kf k f fn ir) {sp : Sp} (hv : Verified T ir sp) : FOK P T f sp := FOK.of hT w.hf w.hc hv
end Go.Vcg

namespace Go.Vcg

/-! ### More arguments read -/
theorem list_of {α : Type} {g : α → Value} {p : α → Prop} : ∀ {cs : List Value}, (∀ u ∈ cs, ∃ n, u = g n ∧ p n) → ∃ ns : List α, cs = ns.map g ∧ ∀ n ∈ ns, p n
  | [], _ => ⟨[], rfl, by simp⟩
  | u :: r, h => by
    obtain ⟨n, rfl, hp⟩ := h u (by simp)
    obtain ⟨ns, rfl, hq⟩ := list_of (cs := r) fun x hx => h x (by simp [hx])
    exact ⟨n :: ns, rfl, fun x hx => by
      rcases List.mem_cons.1 hx with rfl | hx
      · exact hp
      · exact hq x hx⟩

theorem take_one {cs : List Value} {i : Nat} {v : Value} (h : (cs.drop i).take 1 = [v]) : cs[i]? = some v := by
  have : ((cs.drop i).take 1)[0]? = some v := by rw [h]; rfl
  rw [List.getElem?_take] at this
  simpa using this

section
variable {H : Type} {enc : TypeId × Value → H} {P : Program} {w : World} {base : Nat} {sp : Nat → Bool} {held : Bool} {fuel : Nat} {t : TypeId} {cs : List Value} {x : DataW H × List MemPlace}

/-- A struct of ints. -/
theorem ints_struct {fs : Array Field} (ht : P.underlying t = some (.struct fs)) (hc : P.cellsOf t = fs.size) (hfs : ∀ i, i < fs.size → ∃ f, fs[i]? = some f ∧ f.offset = i ∧ P.underlying f.type = some (.int .i64) ∧ P.cellsOf f.type = 1) (h : DataW.trod enc P w base sp held fuel t cs = some x) :
    ∃ ns : List Int, cs = ns.map (.int .i64) ∧ ns.length = fs.size ∧ ∀ n ∈ ns, inR .i64 n := by
  obtain ⟨xs, m, _, _, hl, hx, hel⟩ := DataW.trod_struct ht h
  obtain ⟨ns, rfl, hp⟩ := list_of (g := Value.int .i64) (p := fun n => inR .i64 n) (cs := cs) fun u hu => by
    obtain ⟨i, hi, rfl⟩ := List.getElem_of_mem hu
    have hif : i < fs.size := by omega
    obtain ⟨f, f1, f2, f3, f4⟩ := hfs i hif
    have := hel i f f1
    rw [f2, f4] at this
    have hxi : xs[i]? = some (xs[i]'(by omega)) := List.getElem?_eq_getElem (by omega)
    rw [hxi] at this
    obtain ⟨n, e1, _, e3⟩ := DataW.trod_int f3 this
    have := take_one e1
    rw [List.getElem?_eq_getElem hi] at this
    exact ⟨n, Option.some.inj this, inR_of_wf e3⟩
  exact ⟨ns, rfl, by simpa [hc] using hl, hp⟩

/-- A struct of bools that reads as a known datum. -/
theorem bools_struct {fs : Array Field} (ht : P.underlying t = some (.struct fs)) (hc : P.cellsOf t = fs.size) (hfs : ∀ i, i < fs.size → ∃ f, fs[i]? = some f ∧ f.offset = i ∧ P.underlying f.type = some .bool ∧ P.cellsOf f.type = 1) (h : DataW.trod enc P w base sp held fuel t cs = some x)
    {bs : List Bool} (hx : x.1 = .agg (bs.map fun b => .lit (.bool b))) : cs = bs.map .bool := by
  obtain ⟨xs, m, _, hxx, hl, hxl, hel⟩ := DataW.trod_struct ht h
  rw [hxx] at hx
  simp only [DataW.agg.injEq] at hx
  have hbl : bs.length = fs.size := by have := congrArg List.length hx; simpa [hxl] using this.symm
  apply List.ext_getElem?
  intro i
  by_cases hi : i < fs.size
  · obtain ⟨f, f1, f2, f3, f4⟩ := hfs i hi
    have := hel i f f1
    rw [f2, f4] at this
    have hxi : xs[i]? = some (xs[i]'(by omega)) := List.getElem?_eq_getElem (by omega)
    rw [hxi] at this
    obtain ⟨b, e1, e2⟩ := DataW.trod_bool f3 this
    rw [take_one e1]
    have hbi := congrArg (fun l => l[i]?) hx
    simp only [List.getElem?_map, hxi, Option.map_some, e2] at hbi
    have hb : bs[i]? = some (bs[i]'(by omega)) := List.getElem?_eq_getElem (by omega)
    rw [hb] at hbi
    simp only [Option.map_some, Option.some.injEq, DataW.lit.injEq, Lit.bool.injEq] at hbi
    rw [List.getElem?_map, hb, hbi]
    rfl
  · rw [List.getElem?_eq_none (by omega), List.getElem?_eq_none (by simp; omega)]

/-- A table of structs of bools. -/
theorem bools_table {n : Nat} {e : TypeId} {fs : Array Field} (ht : P.underlying t = some (.array n e)) (he : P.underlying e = some (.struct fs)) (hc : P.cellsOf e = fs.size) (hct : P.cellsOf t = n * fs.size) (hfs : ∀ i, i < fs.size → ∃ f, fs[i]? = some f ∧ f.offset = i ∧ P.underlying f.type = some .bool ∧ P.cellsOf f.type = 1) (h : DataW.trod enc P w base sp held fuel t cs = some x)
    {tb : List (List Bool)} (hx : x.1 = .agg (tb.map fun bs => .agg (bs.map fun b => .lit (.bool b)))) {X : Nat → Prop} : RdE X w fs.size (tb.map fun bs => bs.map .bool) cs := by
  obtain ⟨xs, m, _, hxx, hl, hxl, hel⟩ := DataW.trod_array ht h
  rw [hxx] at hx
  simp only [DataW.agg.injEq] at hx
  have htl : tb.length = n := by have := congrArg List.length hx; simpa [hxl] using this.symm
  rw [hct] at hl
  have key : ∀ i, i < n → (cs.drop (i * fs.size)).take fs.size = (tb[i]?.getD []).map .bool := by
    intro i hi
    have h1 := hel i hi
    rw [hc] at h1
    have hxi : xs[i]? = some (xs[i]'(by omega)) := List.getElem?_eq_getElem (by omega)
    rw [hxi] at h1
    have hbi := congrArg (fun l => l[i]?) hx
    have hb : tb[i]? = some (tb[i]'(by omega)) := List.getElem?_eq_getElem (by omega)
    simp only [List.getElem?_map, hxi, Option.map_some, hb, Option.some.injEq] at hbi
    rw [hb]
    exact bools_struct he hc hfs h1 hbi
  have main : ∀ (k : Nat) (l : List (List Bool)) (us : List Value), us.length = l.length * fs.size → (∀ i, i < l.length → (us.drop (i * fs.size)).take fs.size = (l[i]?.getD []).map .bool) → RdE X w fs.size (l.map fun bs => bs.map .bool) us := by
    intro k l
    induction l with
    | nil => intro us hul _; simp at hul; subst hul; simp [RdE]
    | cons b r ih =>
      intro us hul hk
      simp only [List.map_cons, RdE]
      refine ⟨us.take fs.size, us.drop fs.size, (List.take_append_drop _ _).symm, ?_, ?_, ih _ ?_ ?_⟩
      · rw [List.length_take, hul]; simp only [List.length_cons, Nat.succ_mul]; omega
      · have := hk 0 (by simp)
        simp only [Nat.zero_mul, List.drop_zero, List.getElem?_cons_zero, Option.getD_some] at this
        rw [this]
        clear ih hul hk this
        induction b with
        | nil => simp [RdL]
        | cons x b ih => simp only [List.map_cons, RdL]; exact ⟨_, _, rfl, by simp only [Rd], ih⟩
      · rw [List.length_drop, hul]; simp only [List.length_cons, Nat.succ_mul]; omega
      · intro i hi
        have := hk (i + 1) (by simp; omega)
        rw [Nat.succ_mul] at this
        rw [List.drop_drop, Nat.add_comm fs.size]
        simpa using this
  exact main 0 tb cs (by rw [hl, htl]) (fun i hi => key i (by omega))
end

/-- A package variable's table in its own block. -/
theorem table_at {P : Program} {w : World} {X : Nat → Prop} {g : Nat} {name : String} {cs : Array Value} {es : List (List D)} {sz : Nat} (hg : P.globalNamed name = some g) (hv : w.var? P name = some cs) (hE : RdE X w sz es cs.toList) (hX : ¬ X g) (h0 : 0 < es.length) (hs : 0 < sz) : Rd X w none (.ad sz es 0 0) (.pointer (some ⟨g, 0, none⟩)) := by
  simp only [Rd]
  refine ⟨g, 0, cs.toList, by simp, hX, h0, ?_, hE⟩
  have hl := hE.length
  have hpos : 0 < es.length * sz := Nat.mul_pos h0 hs
  have hcell : ∀ j v, cs.toList[j]? = some v → w.cell? ⟨g, j, none⟩ = some v := by
    intro j v hj
    rw [World.var?_cell hg hv j]
    simpa using hj
  have h1 : cs.toList[0]? = some (cs.toList[0]'(by omega)) := List.getElem?_eq_getElem (by omega)
  obtain ⟨arr, T, fr, e1, _⟩ := cell_block (hcell 0 _ h1)
  refine ⟨arr, T, fr, e1, fun j v hj => ?_⟩
  obtain ⟨arr', T', fr', g1, g2⟩ := cell_block (hcell j v hj)
  rw [e1] at g1
  simp only [Option.some.injEq, Obj.cells.injEq] at g1
  obtain ⟨rfl, _, _⟩ := g1
  simpa using g2

section
variable {H : Type} {enc : TypeId × Value → H} {P : Program} {W : World} {r : Reach} {b0 : Nat}
/-- A struct of ints, handed by value. -/
theorem struct_read {t : TypeId} {fs : Array Field} (ht : P.underlying t = some (.struct fs)) (hc : P.cellsOf t = fs.size) (hfs : ∀ i, i < fs.size → ∃ f, fs[i]? = some f ∧ f.offset = i ∧ P.underlying f.type = some (.int .i64) ∧ P.cellsOf f.type = 1) {v : Value} {d : DataW H} {ps : List MemPlace} (hval : Value.okWide P W r b0 t v)
    (h : DataW.Trod enc P W 0 (fun _ => true) true t v d ps) : ∃ ns : List Int, v = .agg (ns.map (.int .i64)).toArray ∧ ns.length = fs.size ∧ ∀ n ∈ ns, inR .i64 n := by
  obtain ⟨cs, rfl, _⟩ := WideShapes.okWide_struct ht hval
  obtain ⟨fuel, hf⟩ := h
  obtain ⟨ns, h1, h2, h3⟩ := ints_struct ht hc hfs hf
  refine ⟨ns, ?_, h2, h3⟩
  simp only [Value.cells] at h1
  rw [← h1]

theorem rdL_ints {X : Nat → Prop} {w : World} {c : Option Cx} : ∀ ns : List Int, RdL X w c (ns.map (.int .i64)) (ns.map (.int .i64))
  | [] => by simp [RdL]
  | n :: ns => by
    simp only [List.map_cons, RdL]
    exact ⟨_, _, rfl, by simp only [Rd], rdL_ints ns⟩

theorem addr_add_add (a : Addr) (x y : Nat) : (a.add x).add y = a.add (x + y) := by
  unfold Addr.add
  by_cases hx : x = 0 <;> by_cases hy : y = 0 <;> simp [hx, hy, Nat.add_assoc]

theorem slice_addr {w : World} {a : Addr} {v : Value} (h : w.cell? (a.add 0) = some v) : a = ⟨a.block, a.off, none⟩ := by
  obtain ⟨b, off, spot⟩ := a
  have hspot : spot = none := by simpa [Addr.add] using World.cell?_spot h
  subst hspot
  rfl

/-- A slice of structs of ints. -/
theorem structs_read {t e : TypeId} {fs : Array Field} (ht : P.underlying t = some (.slice e)) (he : P.underlying e = some (.struct fs)) (hc : P.cellsOf e = fs.size) (h0 : 0 < fs.size) (hfs : ∀ i, i < fs.size → ∃ f, fs[i]? = some f ∧ f.offset = i ∧ P.underlying f.type = some (.int .i64) ∧ P.cellsOf f.type = 1) {v : Value} {d : DataW H} {ps : List MemPlace} (hval : Value.okWide P W r b0 t v)
    (h : DataW.Trod enc P W 0 (fun _ => true) true t v d ps) : ∃ rs : List (List Int), Rd (fun _ => False) W none (.fz fs.size (rs.map fun ns => ns.map (.int .i64))) v ∧ (∀ ns ∈ rs, ns.length = fs.size ∧ ∀ n ∈ ns, inR .i64 n) ∧ rs.length ≤ maxLen := by
  obtain ⟨a0, len0, cap0, rfl⟩ := WideShapes.okWide_slice ht hval
  obtain ⟨fuel, hf⟩ := h
  rcases Go.Deep.open_slice ht hf with ⟨hcs, hx⟩ | ⟨a, len, cap, m, n, Dt, Pl, hcs, _, hle, hmax, hm, hx, hel⟩
  · simp [Value.cells] at hcs
    obtain ⟨rfl, rfl, rfl⟩ := hcs
    exact ⟨[], by simp only [Rd]; exact .inl ⟨⟨_, rfl⟩, rfl⟩, by simp, by simp⟩
  · simp [Value.cells] at hcs
    obtain ⟨rfl, rfl, rfl⟩ := hcs
    simp only [if_true] at hm
    subst hm
    -- each element's cells
    have hall : ∀ i, i < len0 → ∃ ns : List Int, ns.length = fs.size ∧ (∀ n ∈ ns, inR .i64 n) ∧ ∀ j v, (ns.map (Value.int .i64))[j]? = some v → W.cell? (a.add (i * fs.size + j)) = some v := by
      intro i hi
      obtain ⟨cs', h1, h2⟩ := hel i (by omega)
      rw [hc] at h1
      obtain ⟨_, hl, hcell⟩ := World.cells?_some h1
      obtain ⟨ns, rfl, hn1, hn2⟩ := ints_struct he hc hfs h2
      refine ⟨ns, hn1, hn2, fun j v hj => ?_⟩
      have hjl : j < fs.size := by
        have := (List.getElem?_eq_some_iff.1 hj).1
        simpa [hn1] using this
      have := hcell j hjl
      rw [hj] at this
      have e1 : (a.add (i * fs.size)).add j = a.add (i * fs.size + j) := addr_add_add a _ _
      rw [← e1]; exact this
    have hlist : ∀ k, k ≤ len0 → ∃ rs : List (List Int), rs.length = k ∧ (∀ ns ∈ rs, ns.length = fs.size ∧ ∀ n ∈ ns, inR .i64 n) ∧ RdE (fun _ => False) W fs.size (rs.map fun ns => ns.map (.int .i64)) ((rs.map fun ns => ns.map (Value.int .i64)).flatten) ∧ ∀ j v, ((rs.map fun ns => ns.map (Value.int .i64)).flatten)[j]? = some v → W.cell? (a.add j) = some v := by
      intro k
      induction k with
      | zero => intro _; exact ⟨[], rfl, by simp, by simp [RdE], by simp⟩
      | succ k ih =>
        intro hk
        obtain ⟨rs, r1, r2, r3, r4⟩ := ih (by omega)
        obtain ⟨ns, n1, n2, n3⟩ := hall k (by omega)
        have hfl : ((rs.map fun ns => ns.map (Value.int .i64)).flatten).length = k * fs.size := by
          have := r3.length
          simpa [r1] using this
        refine ⟨rs ++ [ns], by simp [r1], fun x hx => ?_, ?_, fun j v hj => ?_⟩
        · rcases List.mem_append.1 hx with hx | hx
          · exact r2 x hx
          · simp at hx; subst hx; exact ⟨n1, n2⟩
        · rw [List.map_append, List.map_append, List.flatten_append]
          refine r3.append ?_
          simp only [List.map_cons, List.map_nil, List.flatten_cons, List.flatten_nil, RdE]
          exact ⟨_, [], rfl, by simp [n1], rdL_ints ns, rfl⟩
        · rw [List.map_append, List.flatten_append] at hj
          by_cases hlt : j < k * fs.size
          · rw [List.getElem?_append_left (by omega)] at hj
            exact r4 j v hj
          · rw [List.getElem?_append_right (by omega), hfl] at hj
            simp only [List.map_cons, List.map_nil, List.flatten_cons, List.flatten_nil, List.append_nil] at hj
            have := n3 _ v hj
            have e2 : k * fs.size + (j - k * fs.size) = j := by omega
            rw [e2] at this; exact this
    obtain ⟨rs, r1, r2, r3, r4⟩ := hlist len0 (Nat.le_refl _)
    refine ⟨rs, ?_, r2, by omega⟩
    have hrl : (rs.map fun ns => ns.map (D.int .i64)).length = len0 := by simp [r1]
    simp only [Rd]
    by_cases hp : 0 < len0
    · have hfl : ((rs.map fun ns => ns.map (Value.int .i64)).flatten).length = len0 * fs.size := by
        have := r3.length
        simpa [r1] using this
      have hpos : 0 < len0 * fs.size := Nat.mul_pos hp h0
      have hf0 : ((rs.map fun ns => ns.map (Value.int .i64)).flatten)[0]? = some (((rs.map fun ns => ns.map (Value.int .i64)).flatten)[0]'(by omega)) := List.getElem?_eq_getElem (by omega)
      have ha := slice_addr (r4 0 _ hf0)
      refine .inr ⟨a.block, a.off, m, _, by rw [hrl, ← ha], by rw [hrl]; exact hle, hmax, fun h => h, ?_, r3, fun u hu => ?_⟩
      · have c0 := r4 0 _ hf0
        rw [ha, addr_add] at c0
        obtain ⟨arr, T, fr, g1, _⟩ := cell_block c0
        refine ⟨arr, T, fr, g1, fun j v hj => ?_⟩
        have cj := r4 j v hj
        rw [ha, addr_add] at cj
        obtain ⟨arr', T', fr', q1, q2⟩ := cell_block cj
        rw [g1] at q1
        simp only [Option.some.injEq, Obj.cells.injEq] at q1
        obtain ⟨rfl, _, _⟩ := q1
        exact q2
      · simp only [List.mem_flatten, List.mem_map] at hu
        obtain ⟨l, ⟨ns, _, rfl⟩, hu⟩ := hu
        obtain ⟨n, _, rfl⟩ := List.mem_map.1 hu
        rfl
    · have hl0 : len0 = 0 := by omega
      subst hl0
      have hrs : rs = [] := List.eq_nil_of_length_eq_zero r1
      subst hrs
      by_cases hc0 : m = 0
      · subst hc0; exact .inl ⟨⟨_, rfl⟩, rfl⟩
      · obtain ⟨cs', h1, h2⟩ := hel 0 (by omega)
        rw [hc] at h1
        obtain ⟨_, hl, hcell⟩ := World.cells?_some h1
        have := hcell 0 h0
        have h00 : cs'[0]? = some (cs'[0]'(by omega)) := List.getElem?_eq_getElem (by omega)
        rw [h00] at this
        have e1 : (a.add (0 * fs.size)).add 0 = a.add 0 := by rw [addr_add_add, Nat.zero_mul]
        rw [e1] at this
        have ha := slice_addr this
        rw [ha, addr_add] at this
        obtain ⟨arr, T, fr, g1, _⟩ := cell_block this
        exact .inr ⟨a.block, a.off, m, [], by rw [← ha]; rfl, by simp, hmax, fun h => h, ⟨arr, T, fr, g1, by simp⟩, by simp [RdE], by simp⟩
end
end Go.Vcg
