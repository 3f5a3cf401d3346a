/-
  Single operations of the model do on the world what they do on data, part three; calls. For every program; no conditions but those that each theorem names.
-/
import Derived.Test.YtgioabhamihfmaaGreatDoorVcgC
import Derived.Orders
set_option linter.unusedVariables false
set_option linter.unusedSimpArgs false
namespace Go.Vcg

def cOper (P : Program) (kf : Nat → Nat) (ops : Array Oper) (o : Oper) : Option IOper :=
  match guardSlot ops o.guard with
  | some g => some ⟨o.dst, g, cOpT P kf o.op o.type⟩
  | none => none

section
variable {P : Program} {kf : Nat → Nat} {T : Tb} {X : Nat → Prop} {Y : Env} {w0 w : World} {c : Cx} {s : St} {a : Act}

/-- What an operation that is carried out does. -/
def ActOK (P : Program) (T : Tb) (X : Nat → Prop) (Y : Env) (w0 : World) (c : Cx) (s : St) (a : Act) (w : World) (o : Oper) : Eff → Prop
  | .val d => Yld P X c a w o d
  | .new ob ptr => ∀ k, o.dst = some k → s.lk k = none → k < baseN → ∃ v w' c', (execOp a.eval o).run P w = .ok (.value v) w' ∧ Sat T X Y w0 c' ((St.mk s.tm (obPut k ob s.ob)).set (some k) (if ptr then .own k 0 else .row k)) (a.put o.dst v) w'
  | .put k ob => o.dst = none → ∃ w', (execOp a.eval o).run P w = .ok .skip w' ∧ Sat T X Y w0 c { s with ob := obPut k ob s.ob } (a.put o.dst undef) w'
  | .mv none ob => ∀ j, o.dst = some j → s.lk j = none → j < baseN → ∃ v w' c', (execOp a.eval o).run P w = .ok (.value v) w' ∧ Sat T X Y w0 c' ((St.mk s.tm (obPut j ob s.ob)).set (some j) (.row j)) (a.put o.dst v) w'
  | .mv (some k) ob => ∀ j, o.dst = some j → (s.lk j = none ∨ j = k) → j < baseN → ∃ v w' c', (execOp a.eval o).run P w = .ok (.value v) w' ∧ Sat T X Y w0 c' ((St.mk (forgetL k s.tm) (obPut j ob (forgetO k (obDel k s.ob)))).set (some j) (.row j)) (a.put o.dst v) w'
  | .mv2 k k2 ob => ∀ j, o.dst = some j → s.lk j = none → j < baseN → ∃ v w' c', (execOp a.eval o).run P w = .ok (.value v) w' ∧ Sat T X Y w0 c' ((St.mk (forgetL k (forgetL k2 s.tm)) (obPut j ob (forgetO k (obDel k (forgetO k2 (obDel k2 s.ob)))))).set (some j) (.row j)) (a.put o.dst v) w'
  | .frz _ _ => True
  | .cal _ _ _ => True
  | .news _ _ => True
  | .putv k ob d => ∃ v w', (execOp a.eval o).run P w = .ok (.value v) w' ∧ Sat T X Y w0 c ((St.mk s.tm (obPut k ob s.ob)).set o.dst d) (a.put o.dst v) w'

theorem gus_mem : ∀ {l : List Opd}, gus T s l → ∀ x ∈ l, (x.ev T s).gu = true
  | [], _, x, hx => by simp at hx
  | y :: r, h, x, hx => by
    simp only [gus] at h
    rcases List.mem_cons.1 hx with rfl | hx
    · exact h.1
    · exact gus_mem h.2 x hx

/-- An effect that yields a datum alone. -/
theorem ActOK.val_of {o : Oper} {r : Option (Prop × Eff)} {φ : Prop} {e : Eff} (hr : r = some (φ, e)) (hv : ∀ φ e, r = some (φ, e) → ∃ d, e = .val d) (hy : ∀ d, r = some (φ, .val d) → Yld P X c a w o d) : ActOK P T X Y w0 c s a w o e := by
  obtain ⟨d, rfl⟩ := hv φ e hr
  exact hy d hr

theorem actx_eff {f : Nat} {vals : List D} {lk : Nat → Option Ob} {φ : Prop} {e : Eff} (h : actx T f vals lk = some (φ, e)) : (∃ ks d, e = .frz ks d) ∨ ∃ ks d ob, e = .cal ks d ob := by
  unfold actx at h
  split at h
  · cases h
  · split at h
    · split at h
      · simp only [Option.some.injEq, Prod.mk.injEq] at h
        exact .inl ⟨_, _, h.2.symm⟩
      · simp only [hcall, Option.some.injEq, Prod.mk.injEq] at h
        exact .inr ⟨_, _, _, h.2.symm⟩
    · cases h

theorem act_val {ip : IOp} {ev : Opd → D} {lk : Nat → Option Ob} (hip : (match ip with | .alloc _ | .box _ | .bslice .. | .store .. | .append .. | .pick .. | .call .. | .emp .. | .mks .. | .callx .. | .calln .. | .callc .. | .bs0 .. | .appz .. | .clr .. | .cpy .. | .bnew .. => false | _ => true) = true) : ∀ φ e, act T ip ev lk = some (φ, e) → ∃ d, e = .val d := by
  intro φ e h
  cases ip <;> simp only [act] at h hip <;> (first | (cases hip; done) | skip) <;> (repeat' (split at h)) <;> (first | (cases h; done) | (simp only [Option.map_eq_some_iff] at h; obtain ⟨r, _, h⟩ := h; cases h; exact ⟨_, rfl⟩) | (cases h; exact ⟨_, rfl⟩))

theorem run_overlaps_zero {P : Program} (w : World) (tS tR e : TypeId) (ht : P.underlying tS = some (.slice e)) (size : Nat) (hz : ∀ w, (Go.sizeOf e).run P w = .ok size w) (p q : Option Addr) (ca lb cb : Nat) :
    (Extern.SlicesOverlaps.overlaps #[tS, tS] #[tR] #[.slice p 0 ca, .slice q lb cb]).run P w = .ok (.bool false) w := by
  change Sem.run P (α := Value) (do
    let some t := (#[tS, tS] : Array TypeId)[0]? | stuck "slices.overlaps: no parameter types"
    let .slice elem ← underlying t | stuck "slices.overlaps: slice type expected"
    let size ← sizeOf elem
    match p, q with
    | some a, some b =>
      if 0 = 0 ∨ lb = 0 ∨ size = 0 then pure (Value.bool false)
      else if a.block != b.block && (← frozen a) && (← frozen b) then unsupported .addressObserved
      else do
        if a.block != b.block then do
          noView a; noView b
          if ← mayBeOne a b then return Value.bool ((← choose (.extern "sameAddr.stringBytes" 2)) == 1)
        pure (Value.bool (a.block == b.block && a.off < b.off + lb * size && b.off < a.off + 0 * size))
    | _, _ => pure (Value.bool false)) w = _
  cases p <;> cases q <;> simp [run_underlying ht, hz]

theorem snd_ovl (h : Sat T X Y w0 c s a w) {o : Oper} {f : Nat} {args : Array Operand} {argTypes : Array TypeId} {x' y' : Opd} (ho : o.op = .call { callee := .value (.func f), args, argTypes }) (hc : cArgs P argTypes.toList args.toList = some [x', y']) (hg : gus T s [x', y']) (hO : OvlOK P f)
    {φ : Prop} {d : D} (hact : act T (.ovl x' y') (fun x => (x.ev T s).un) s.lk = some (φ, .val d)) (hφ : φ) : Yld P X c a w o d := by
  have hrd := cArgs_read h hc hg
  obtain ⟨fn, tS, tR, e, size, hf, hn, hb, hnx, hfd, hu, hz⟩ := hO
  simp only [act] at hact
  split at hact
  · rename_i k k' sz lo n cp hx hy
    split at hact
    · rename_i sz1 es1 sz2 es2 hk hk'
      simp only [Option.some.injEq, Prod.mk.injEq, Eff.val.injEq] at hact
      obtain ⟨rfl, rfl⟩ := hact
      obtain ⟨hne, hl0, hs0⟩ := hφ
      simp only [List.map_cons, List.map_nil, hx, hy, RdL, Rd] at hrd
      obtain ⟨v1, r1, e1, ⟨hl1, rfl⟩, v2, r2, e2, ⟨hl2, b, o', hid, rfl, _⟩, rfl⟩ := hrd
      subst e2
      have hargs : args.map a.eval = #[c.rv k, .slice (some ⟨b, o', none⟩) n cp] := by
        apply Array.ext'
        rw [Array.toList_map, e1]
      obtain ⟨vs, Tt, ⟨_, hown⟩, _, _⟩ := h.ob k _ hk
      obtain ⟨b', cur, T', hid', hheap', hsize', _⟩ := h.ob k' _ hk'
      rw [hid] at hid'
      obtain rfl := Option.some.inj hid'
      have hov : (Extern.SlicesOverlaps.overlaps #[tS, tS] #[tR] #[c.rv k, .slice (some ⟨b, o', none⟩) n cp]).run P w = .ok (.bool false) w := by
        rcases hown with ⟨⟨p, hp⟩, _, _⟩ | ⟨g, cap, cur1, hp, hgid, hheap, _⟩
        · rw [hp]
          exact run_overlaps_zero w tS tR e hu size hz _ _ _ _ _
        · rw [hp]
          refine Lib.run_overlaps_apart w tS tR e hu size hz _ _ _ _ _ _ (fun hgb => ?_) Tt T' cur1.size cur.size (by simp [World.shape?, hheap]) (by simp [World.shape?, hheap']) ?_ (by simp [World.frozen?, hheap]) (by simp [World.frozen?, hheap])
          · simp only at hgb
            subst hgb
            exact hne (h.inj k k' _ hl1 hl2 hgid hid)
          · rw [hsize']
            exact Nat.ne_of_gt (Nat.mul_pos hl0 hs0)
      have hcall : (callFunc f (args.map a.eval)).run P w = .ok (.value (.bool false)) w := by
        rw [run_callFunc_extern hf hn hb hnx hfd, hargs, hov]
        rfl
      refine ⟨.bool false, ?_, by simp [Rd]⟩
      simp only [execOp, ho, resolve, Act.eval, Deferred.ofValue, Sem.run_bind, Sem.run_pure, Result.andThen_ok, invoke]
      simpa using hcall
    · cases hact
  · cases hact

theorem act_ok (hO : OvlAll P kf) (h : Sat T X Y w0 c s a w) {o : Oper} {ip : IOp} (hc : cOp P kf o.op o.type = some ip) {φ : Prop} {e : Eff} (hact : act T ip (fun x => (x.ev T s).un) s.lk = some (φ, e)) (hφ : φ) (hg : gus T s ip.opds) : ActOK P T X Y w0 c s a w o e := by
  cases hop : o.op <;> rw [hop] at hc <;> simp only [cOp] at hc
  case move x =>
    simp only [Option.map_eq_some_iff] at hc
    obtain ⟨y, hy, rfl⟩ := hc
    simp only [act, Option.some.injEq, Prod.mk.injEq] at hact
    obtain ⟨_, rfl⟩ := hact
    simp only [IOp.opds, gus] at hg
    exact snd_mov h (.inl hop) hy hg.1
  case assign x =>
    simp only [Option.map_eq_some_iff] at hc
    obtain ⟨y, hy, rfl⟩ := hc
    simp only [act, Option.some.injEq, Prod.mk.injEq] at hact
    obtain ⟨_, rfl⟩ := hact
    simp only [IOp.opds, gus] at hg
    exact snd_mov h (.inr hop) hy hg.1
  case pick x y z =>
    split at hc <;> cases hc
    simp [act] at hact
  case alloc U =>
    split at hc
    · rename_i e he
      cases hc
      simp only [act, Option.some.injEq, Prod.mk.injEq] at hact
      obtain ⟨_, rfl⟩ := hact
      intro k hd hk hkb
      exact snd_bnew h hop he hd hk hkb
    · simp only [Option.map_eq_some_iff] at hc
      obtain ⟨cs, hz, rfl⟩ := hc
      simp only [act, Option.some.injEq, Prod.mk.injEq] at hact
      obtain ⟨_, rfl⟩ := hact
      intro k hd hk hkb
      exact snd_alloc h hop hz hd hk hkb
  case box U x =>
    simp only [Option.map_eq_some_iff] at hc
    obtain ⟨y, hy, rfl⟩ := hc
    simp only [act, Option.some.injEq, Prod.mk.injEq] at hact
    obtain ⟨rfl, rfl⟩ := hact
    simp only [IOp.opds, gus] at hg
    intro k hd hk hkb
    exact snd_box h hop hy hg.1 hφ hd hk hkb
  case build U parts =>
    split at hc
    · rename_i fs z ps hu hz hp
      split at hc
      · rename_i hfs
        cases hc
        refine ActOK.val_of hact (act_val rfl) fun d hd => snd_build h hop hu hfs hz hp ?_ hd hφ
        simpa [IOp.opds] using hg
      · cases hc
    · cases hc
  case buildSlice U n parts =>
    split at hc
    · rename_i e hu
      split at hc
      · rename_i z sz ps hz hsz hp
        split at hc
        · rename_i hcond
          cases hc
          simp only [act, Option.some.injEq, Prod.mk.injEq] at hact
          obtain ⟨_, rfl⟩ := hact
          obtain ⟨rfl, hpl, h0⟩ := hcond
          intro k hd hk hkb
          exact snd_bs0 h (by rw [hop]; congr 1; exact Array.ext' hpl) hu hsz h0 hd hk hkb
        split at hc
        · rename_i hcond
          cases hc
          simp only [act] at hact
          split at hact
          · rename_i ψ es hf
            simp only [Option.some.injEq, Prod.mk.injEq] at hact
            obtain ⟨rfl, rfl⟩ := hact
            intro k hd hk hkb
            exact snd_bslice h hop hu hz hsz hp hcond.1 hcond.2.1 hcond.2.2.1 hcond.2.2.2 (by simpa [IOp.opds] using hg) hf hφ hd hk hkb
          · cases hact
        · cases hc
      · cases hc
    · cases hc
  case load U x =>
    split at hc
    · rename_i ag n y ha hn hy
      cases hc
      simp only [IOp.opds, gus] at hg
      exact ActOK.val_of hact (act_val rfl) fun d hd => snd_load h hop ha hn hy hg.1 hd hφ
    · cases hc
  case store U x v =>
    split at hc
    · rename_i n y z hn hy hz
      cases hc
      simp only [IOp.opds, gus] at hg
      have hp : ∃ k ob, e = .put k ob := by
        simp only [act] at hact
        (repeat' (split at hact)) <;> first | (cases hact; done) | (cases hact; exact ⟨_, _, rfl⟩)
      obtain ⟨k, ob, rfl⟩ := hp
      intro hd
      exact snd_store h hop hn hy hz hg.1 hg.2.1 hd hact hφ
    · cases hc
  case nilCheck x =>
    simp only [Option.map_eq_some_iff] at hc
    obtain ⟨y, hy, rfl⟩ := hc
    simp only [IOp.opds, gus] at hg
    exact ActOK.val_of hact (act_val rfl) fun d hd => snd_nilc h hop hy hg.1 hd hφ
  case binOp op U x y U' =>
    split at hc
    · rename_i x' y' hx hy
      split at hc
      · cases hc
        simp only [IOp.opds, gus] at hg
        exact ActOK.val_of hact (act_val rfl) fun d hd => snd_bin h hop hx hy hg.1 hg.2.1 hd hφ
      · rename_i hu
        split at hc <;> cases hc
        · simp only [IOp.opds, gus] at hg
          exact ActOK.val_of hact (act_val rfl) fun d hd => snd_eqb h hu (neg := false) hop hx hy hg.1 hg.2.1 hd
        · simp only [IOp.opds, gus] at hg
          exact ActOK.val_of hact (act_val rfl) fun d hd => snd_eqb h hu (neg := true) hop hx hy hg.1 hg.2.1 hd
      · rename_i fs hu
        have hag : aggT P U = some true := by simp [aggT, hu]
        split at hc
        · split at hc
          · rename_i hq
            simp only [Option.map_eq_some_iff] at hc
            obtain ⟨ks, hk, rfl⟩ := hc
            simp only [IOp.opds, gus] at hg
            exact ActOK.val_of hact (act_val rfl) fun d hd => snd_eqa h hag hq hk (neg := false) hop hx hy hg.1 hg.2.1 hd
          · cases hc
        · split at hc
          · rename_i hq
            simp only [Option.map_eq_some_iff] at hc
            obtain ⟨ks, hk, rfl⟩ := hc
            simp only [IOp.opds, gus] at hg
            exact ActOK.val_of hact (act_val rfl) fun d hd => snd_eqa h hag hq hk (neg := true) hop hx hy hg.1 hg.2.1 hd
          · cases hc
        · cases hc
      · rename_i hu
        split at hc <;> cases hc
        · simp only [IOp.opds, gus] at hg
          exact ActOK.val_of hact (act_val rfl) fun d hd => snd_eqs h hu (neg := false) hop hx hy hg.1 hg.2.1 hd
        · simp only [IOp.opds, gus] at hg
          exact ActOK.val_of hact (act_val rfl) fun d hd => snd_eqs h hu (neg := true) hop hx hy hg.1 hg.2.1 hd
        · simp only [IOp.opds, gus] at hg
          exact ActOK.val_of hact (act_val rfl) fun d hd => snd_sadd h hop hx hy hg.1 hg.2.1 hd hφ
      · rename_i e' hu
        split at hc
        · cases hc
          simp only [IOp.opds, gus] at hg
          exact ActOK.val_of hact (act_val rfl) fun d hd => snd_nileq h hu (neg := false) hop hx hy hg.1 hd
        · cases hc
          simp only [IOp.opds, gus] at hg
          exact ActOK.val_of hact (act_val rfl) fun d hd => snd_nileq h hu (neg := true) hop hx hy hg.1 hd
        · cases hc
      · rename_i e' hu
        split at hc
        · cases hc
          simp only [IOp.opds, gus] at hg
          exact ActOK.val_of hact (act_val rfl) fun d hd => snd_ileq h hu (neg := false) hop hx hy hg.1 hd
        · cases hc
          simp only [IOp.opds, gus] at hg
          exact ActOK.val_of hact (act_val rfl) fun d hd => snd_ileq h hu (neg := true) hop hx hy hg.1 hd
        · cases hc
      · cases hc
    · cases hc
  case makeFunc fn first caps =>
    cases fn <;> simp only at hc <;> try (cases hc; done)
    rename_i f
    split at hc
    · rename_i hfirst
      subst hfirst
      simp only [Option.map_eq_some_iff] at hc
      obtain ⟨ys, hy, rfl⟩ := hc
      simp only [act, Option.some.injEq, Prod.mk.injEq] at hact
      obtain ⟨_, rfl⟩ := hact
      exact snd_mkclo h hop hy (by simpa only [IOp.opds] using hg)
    · cases hc
  case unOp op U x =>
    simp only [Option.map_eq_some_iff] at hc
    obtain ⟨y, hy, rfl⟩ := hc
    simp only [IOp.opds, gus] at hg
    exact ActOK.val_of hact (act_val rfl) fun d hd => snd_un h hop hy hg.1 hd hφ
  case convert U V x =>
    split at hc
    · rename_i y hU hV hy
      cases hc
      simp only [IOp.opds, gus] at hg
      exact ActOK.val_of hact (act_val rfl) fun d hd => snd_convw h hop hU hV hy hg.1 hd
    · rename_i k0 k y hU hV hy
      cases hc
      simp only [IOp.opds, gus] at hg
      exact ActOK.val_of hact (act_val rfl) fun d hd => snd_conv h hop ⟨_, hU⟩ hV hy hg.1 hd hφ
    · rename_i e y hU hV hy
      split at hc
      · rename_i he
        cases hc
        simp only [IOp.opds, gus] at hg
        exact ActOK.val_of hact (act_val rfl) fun d hd => snd_bts h hop hU he hV hy hg.1 hd hφ
      · cases hc
    · cases hc
  case makeSlice U l m =>
    split at hc
    · rename_i e hu
      split at hc
      · rename_i i z x' y' hi hz hx hy
        split at hc
        · rename_i hcond
          cases hc
          simp only [IOp.opds, gus] at hg
          simp only [act] at hact
          split at hact
          · rename_i n1 n2 hk1 hk2
            simp only [Option.some.injEq, Prod.mk.injEq] at hact
            obtain ⟨rfl, rfl⟩ := hact
            obtain ⟨q1, q2, q3, q4⟩ := hφ
            intro k hd hk hkb
            exact snd_mks h hop hu hi hz hx hy hcond.1 hcond.2 hg.1 hg.2.1 hk1 hk2 q1 q2 q3 q4 hd hk hkb
          · cases hact
        · cases hc
      · cases hc
    · cases hc
  case fieldAddr U x i =>
    split at hc
    · rename_i f hf
      split at hc
      · rename_i n y hn hy
        split at hc
        · rename_i h0
          cases hc
          simp only [IOp.opds, gus] at hg
          exact ActOK.val_of hact (act_val rfl) fun d hd => snd_faddr h hop hf hn h0 hy hg.1 hd hφ
        · cases hc
      · cases hc
    · cases hc
  case field U x i =>
    split at hc
    · rename_i f hf
      split at hc
      · rename_i ag n y ha hn hy
        cases hc
        simp only [IOp.opds, gus] at hg
        exact ActOK.val_of hact (act_val rfl) fun d hd => snd_field h hop hf ha hn hy hg.1 hd hφ
      · cases hc
    · cases hc
  case indexAddr U x i =>
    split at hc
    · rename_i e' hu
      split at hc
      · rename_i n y j hn hy hj
        cases hc
        simp only [IOp.opds, gus] at hg
        exact ActOK.val_of hact (act_val rfl) fun d hd => snd_iaddr h hop hu hn hy hj hg.1 hg.2.1 hd hφ
      · cases hc
    · rename_i m e' hu
      split at hc
      · rename_i n y j hn hy hj
        cases hc
        simp only [IOp.opds, gus] at hg
        exact ActOK.val_of hact (act_val rfl) fun d hd => snd_iarr h hop hu hn hy hj hg.1 hg.2.1 hd hφ
      · cases hc
    · cases hc
  case slice U x lo hi mx =>
    split at hc
    · rename_i e' hu
      cases mx with
      | some m0 =>
        simp only at hc
        split at hc
        · rename_i n y h' m' hn hy hl hh hm
          have hlo : lo = none := by cases lo <;> simp at hl <;> rfl
          subst hlo
          cases hi with
          | none => simp at hh
          | some hi0 =>
          simp only [Option.map_some, Option.some.injEq] at hh
          split at hc
          · cases hc
            simp only [IOp.opds, gus] at hg
            simp only [act] at hact
            split at hact
            · rename_i hk
              cases hact
              intro k hd hk' hkb
              exact snd_emp h hop hu hn hy hh hm hg.1 (.inl ⟨_, _, hk⟩) hd hk' hkb
            · rename_i hk
              cases hact
              intro k hd hk' hkb
              exact snd_emp h hop hu hn hy hh hm hg.1 (.inr ⟨_, hk⟩) hd hk' hkb
            · cases hact
          · cases hc
            exact ActOK.val_of hact (act_val rfl) fun d hd => snd_slc3 h hop hu hn hy (l := none) rfl hh hm (by simpa [IOp.opds] using hg) hd hφ
        · rename_i n y l' h' m' hn hy hl hh hm
          cases hc
          cases hi with
          | none => simp at hh
          | some hi0 =>
          simp only [Option.map_some, Option.some.injEq] at hh
          exact ActOK.val_of hact (act_val rfl) fun d hd => snd_slc3 h hop hu hn hy (l := some l') (by simpa using hl) hh hm (by simpa [IOp.opds] using hg) hd hφ
        · cases hc
      | none =>
        simp only at hc
        split at hc
        · rename_i n y hn hy hl hh
          cases hc
          exact ActOK.val_of hact (act_val rfl) fun d hd => snd_slc h hop hu hn hy (by simpa using hl) (by simpa using hh) (by simpa [IOp.opds] using hg) hd hφ
        · rename_i n y l hn hy hl hh
          cases hc
          exact ActOK.val_of hact (act_val rfl) fun d hd => snd_slc h hop hu hn hy (by simpa using hl) (by simpa using hh) (by simpa [IOp.opds] using hg) hd hφ
        · rename_i n y l hn hy hl hh
          cases hc
          exact ActOK.val_of hact (act_val rfl) fun d hd => snd_slc h hop hu hn hy (by simpa using hl) (by simpa using hh) (by simpa [IOp.opds] using hg) hd hφ
        · rename_i n y l m hn hy hl hh
          cases hc
          exact ActOK.val_of hact (act_val rfl) fun d hd => snd_slc h hop hu hn hy (by simpa using hl) (by simpa using hh) (by simpa [IOp.opds] using hg) hd hφ
        · cases hc
    · rename_i hu
      split at hc
      · rename_i y hy hl hh
        cases hc
        exact ActOK.val_of hact (act_val rfl) fun d hd => snd_sslc h hop hu hy (by simpa using hl) (by simpa using hh) (by simpa [IOp.opds] using hg) hd hφ
      · rename_i y l hy hl hh
        cases hc
        exact ActOK.val_of hact (act_val rfl) fun d hd => snd_sslc h hop hu hy (by simpa using hl) (by simpa using hh) (by simpa [IOp.opds] using hg) hd hφ
      · rename_i y l hy hl hh
        cases hc
        exact ActOK.val_of hact (act_val rfl) fun d hd => snd_sslc h hop hu hy (by simpa using hl) (by simpa using hh) (by simpa [IOp.opds] using hg) hd hφ
      · rename_i y l m hy hl hh
        cases hc
        exact ActOK.val_of hact (act_val rfl) fun d hd => snd_sslc h hop hu hy (by simpa using hl) (by simpa using hh) (by simpa [IOp.opds] using hg) hd hφ
      · cases hc
    · rename_i m e hu
      split at hc
      · rename_i l
        split at hc
        · rename_i n y j hn hy hj
          cases hc
          simp only [IOp.opds, gus] at hg
          exact ActOK.val_of hact (act_val rfl) fun d hd => snd_slca h hop hu hn hy hj hg.1 hg.2.1 hd hφ
        · cases hc
      · cases hc
    · cases hc
  case index U x i =>
    split at hc
    · rename_i hu
      split at hc
      · rename_i y j hy hj
        cases hc
        simp only [IOp.opds, gus] at hg
        exact ActOK.val_of hact (act_val rfl) fun d hd => snd_sidx h hu hop hy hj hg.1 hg.2.1 hd hφ
      · cases hc
    · cases hc
  case extract x i =>
    simp only [Option.map_eq_some_iff] at hc
    obtain ⟨y, hy, rfl⟩ := hc
    simp only [IOp.opds, gus] at hg
    exact ActOK.val_of hact (act_val rfl) fun d hd => snd_ext h hop hy hg.1 hd hφ
  case call cl =>
    obtain ⟨callee, args, argTypes⟩ := cl
    unfold cCall at hc
    split at hc
    · split at hc
      · simp only [Option.map_eq_some_iff] at hc
        obtain ⟨ys, _, rfl⟩ := hc
        simp [act] at hact
      · split at hc
        · simp only [Option.map_eq_some_iff] at hc
          obtain ⟨ys, _, rfl⟩ := hc
          simp only [act] at hact
          rcases actx_eff hact with ⟨_, _, rfl⟩ | ⟨_, _, _, rfl⟩ <;> trivial
        · rename_i f hcal _ _
          simp only [Option.map_eq_some_iff] at hc
          obtain ⟨ys, hys, hcn⟩ := hc
          unfold callN at hcn
          split at hcn
          · rename_i hkf
            unfold ovlOf at hcn
            split at hcn
            · subst hcn
              simp only at hcal
              subst hcal
              exact ActOK.val_of hact (act_val rfl) fun d hd => snd_ovl h hop hys hg (hO _ hkf) hd hφ
            · subst hcn
              simp [act] at hact
          · subst hcn
            simp [act] at hact
    · simp only [Option.map_eq_some_iff] at hc
      obtain ⟨ys, _, rfl⟩ := hc
      simp only [act] at hact
      unfold actc at hact
      split at hact
      · split at hact
        · rcases actx_eff hact with ⟨_, _, rfl⟩ | ⟨_, _, _, rfl⟩ <;> trivial
        · cases hact
      · cases hact
    · rename_i b hb
      simp only at hb hc
      subst hb
      unfold cBuiltin at hc
      split at hc
      · rename_i x t ha ht
        obtain rfl : args = #[x] := by cases args; simp_all
        obtain rfl : argTypes = #[t] := by cases argTypes; simp_all
        split at hc
        · rename_i e' hu
          simp only [Option.map_eq_some_iff] at hc
          obtain ⟨y, hy, rfl⟩ := hc
          simp only [IOp.opds, gus] at hg
          exact ActOK.val_of hact (act_val rfl) fun d hd => snd_len h hop hu hy hg.1 hd
        · rename_i hu
          simp only [Option.map_eq_some_iff] at hc
          obtain ⟨y, hy, rfl⟩ := hc
          simp only [IOp.opds, gus] at hg
          exact ActOK.val_of hact (act_val rfl) fun d hd => snd_lens h hop hu hy hg.1 hd
        · cases hc
      · rename_i x t ha ht
        obtain rfl : args = #[x] := by cases args; simp_all
        obtain rfl : argTypes = #[t] := by cases argTypes; simp_all
        split at hc
        · rename_i e' hu
          simp only [Option.map_eq_some_iff] at hc
          obtain ⟨y, hy, rfl⟩ := hc
          simp only [IOp.opds, gus] at hg
          exact ActOK.val_of hact (act_val rfl) fun d hd => snd_capo h hop hu hy hg.1 hd
        · cases hc
      · rename_i x t ha ht
        obtain rfl : args = #[x] := by cases args; simp_all
        obtain rfl : argTypes = #[t] := by cases argTypes; simp_all
        split at hc
        · rename_i e' hu
          split at hc
          · rename_i i z x' hi hz hx
            split at hc
            · rename_i hcond
              cases hc
              simp only [IOp.opds, gus] at hg
              have key := snd_clr h hop hu hi hz hx hcond.1 hcond.2 hg.1
              simp only [act] at hact
              split at hact
              · rename_i k sz lo n cp hk
                split at hact
                · rename_i sz2 es hlk
                  simp only [Option.some.injEq, Prod.mk.injEq] at hact
                  obtain ⟨rfl, rfl⟩ := hact
                  obtain ⟨h1, h2, h3, h4⟩ := hφ
                  exact key.1 hk hlk h1 h2 h3 h4
                · rename_i sz2 es hlk
                  simp only [Option.some.injEq, Prod.mk.injEq] at hact
                  obtain ⟨rfl, rfl⟩ := hact
                  obtain ⟨h1, h2, h3, h4⟩ := hφ
                  exact key.2.2 hk hlk h1 h2 h3 h4
                · cases hact
              · rename_i sz hk
                simp only [Option.some.injEq, Prod.mk.injEq] at hact
                obtain ⟨_, rfl⟩ := hact
                exact key.2.1 hk
              · cases hact
            · cases hc
          · cases hc
        · cases hc
      · rename_i x y t u ha ht
        obtain rfl : args = #[x, y] := by cases args; simp_all
        obtain rfl : argTypes = #[t, u] := by cases argTypes; simp_all
        split at hc
        · rename_i htu
          subst htu
          split at hc
          · rename_i e' hu
            split at hc
            · rename_i i x' y' hi hx hy
              split at hc
              · cases hc
                simp only [IOp.opds, gus] at hg
                simp only [act] at hact
                split at hact
                · rename_i k sz lo n cp hk
                  split at hact
                  · rename_i sz2 es ns hlk hn
                    simp only [Option.some.injEq, Prod.mk.injEq] at hact
                    obtain ⟨rfl, rfl⟩ := hact
                    obtain ⟨h1, h2, h3, h4⟩ := hφ
                    exact snd_cpy h hop hu hi hx hy hg.1 hg.2.1 hn hk hlk h1 h2 h3 h4
                  · cases hact
                · cases hact
              · cases hc
            · cases hc
          · cases hc
        · cases hc
      · rename_i x y t u ha ht
        obtain rfl : args = #[x, y] := by cases args; simp_all
        obtain rfl : argTypes = #[t, u] := by cases argTypes; simp_all
        split at hc
        · rename_i e' hu hv
          split at hc
          · rename_i i z x' y' hi hz hx hy
            split at hc
            · rename_i hcond
              cases hc
              simp only [IOp.opds, gus] at hg
              simp only [act] at hact
              split at hact
              · rename_i z0 m hk hm
                simp only [Option.some.injEq, Prod.mk.injEq] at hact
                obtain ⟨rfl, rfl⟩ := hact
                intro j hd hj hjb
                exact (snd_appz h hop hu hv hi hz hx hy hcond.1 hcond.2 hg.1 hg.2.1 hd hm hφ.1).1 z0 hk hφ.2.1 hφ.2.2 hj hjb
              · rename_i k sz lo l cp m hk hm
                split at hact
                · rename_i sz2 es hlk
                  simp only [Option.some.injEq, Prod.mk.injEq] at hact
                  obtain ⟨rfl, rfl⟩ := hact
                  obtain ⟨h1, h2, h3, h4, h5, h6, h7, h8, h9⟩ := hφ
                  intro j hd hj hjb
                  exact (snd_appz h hop hu hv hi hz hx hy hcond.1 hcond.2 hg.1 hg.2.1 hd hm h3).2 hk hlk h1 h2 h4 h5 h6 h7 h8 h9 hj hjb
                · cases hact
              · cases hact
            · cases hc
          · cases hc
        split at hc
        · rename_i htu
          subst htu
          split at hc
          · rename_i e' hu
            split at hc
            · rename_i i z x' y' hi hz hx hy
              split at hc
              · rename_i hcond
                cases hc
                simp only [IOp.opds, gus] at hg
                have key : ∀ j, o.dst = some j → ∀ ns, newsOf i.size s.lk (y'.ev T s).un = some ns → _ := fun j hd ns hn => snd_append h hop hu hi hz hx hy hcond.1 hcond.2 hg.1 hg.2.1 hd hn
                simp only [act] at hact
                split at hact
                · rename_i k ns hk hn
                  split at hact
                  · rename_i sz' es hlk
                    simp only [Option.some.injEq, Prod.mk.injEq] at hact
                    obtain ⟨rfl, rfl⟩ := hact
                    obtain ⟨h1, h2, h3, h4⟩ := hφ
                    intro j hd hj hjb
                    exact (key j hd ns hn).1 k sz' es hk hlk h1 h2 h3 h4 hj hjb
                  · rename_i sz' es hlk
                    simp only [Option.some.injEq, Prod.mk.injEq] at hact
                    obtain ⟨rfl, rfl⟩ := hact
                    obtain ⟨h1, h2, h3, h4⟩ := hφ
                    intro j hd hj hjb
                    exact (key j hd ns hn).2.2 k sz' es hk hlk h1 h2 h3 h4 hj hjb
                  · cases hact
                · rename_i k hk _
                  split at hact
                  · rename_i sz' es k2 hlk hk2
                    split at hact
                    · rename_i sz2 ns hlk2
                      simp only [Option.some.injEq, Prod.mk.injEq] at hact
                      obtain ⟨rfl, rfl⟩ := hact
                      obtain ⟨h1, h2, h3, h4, h5⟩ := hφ
                      intro j hd hj hjb
                      exact snd_append2 h hop hu hi hz hx hy hcond.1 hcond.2 hg.1 hg.2.1 hd hk hk2 hlk hlk2 h1 h2 h3 h4 h5 hj hjb
                    · cases hact
                  · cases hact
                · rename_i k sz lo n cp hk _
                  split at hact
                  · rename_i k2 sz3 lo2 n2 cp2 hk2
                    split at hact
                    · rename_i sz2 es hlk
                      simp only [Option.some.injEq, Prod.mk.injEq] at hact
                      obtain ⟨rfl, rfl⟩ := hact
                      obtain ⟨rfl, h2, h3, h4, h5, h6, h7, h8, h9⟩ := hφ
                      exact snd_append_vws h hop hu hi hx hy hg.1 hg.2.1 hk hk2 hlk rfl h2 h3 h4 h5 h6 h7 h8 h9
                    · cases hact
                  · cases hact
                · rename_i z0 ns hk hn
                  simp only [Option.some.injEq, Prod.mk.injEq] at hact
                  obtain ⟨rfl, rfl⟩ := hact
                  intro j hd hj hjb
                  exact (key j hd ns hn).2.1 z0 hk hφ.1 hφ.2 hj hjb
                · rename_i k sz lo n cp ns hk hn
                  split at hact
                  · rename_i sz2 es hlk
                    simp only [Option.some.injEq, Prod.mk.injEq] at hact
                    obtain ⟨rfl, rfl⟩ := hact
                    obtain ⟨h1, h2, h3, h4⟩ := hφ
                    exact snd_append_vw h hop hu hi hx hy hg.1 hg.2.1 hn hk hlk h1 h2 h3 h4
                  · cases hact
                · cases hact
              · cases hc
            · cases hc
          · cases hc
        · cases hc
      · rename_i x y t u ha ht
        obtain rfl : args = #[x, y] := by cases args; simp_all
        obtain rfl : argTypes = #[t, u] := by cases argTypes; simp_all
        split at hc
        · rename_i x' y' hx hy
          cases hc
          simp only [IOp.opds, gus] at hg
          exact ActOK.val_of hact (act_val rfl) fun d hd => snd_mm h (mx := true) hop hx hy hg.1 hg.2.1 hd
        · cases hc
      · rename_i x y t u ha ht
        obtain rfl : args = #[x, y] := by cases args; simp_all
        obtain rfl : argTypes = #[t, u] := by cases argTypes; simp_all
        split at hc
        · rename_i x' y' hx hy
          cases hc
          simp only [IOp.opds, gus] at hg
          exact ActOK.val_of hact (act_val rfl) fun d hd => snd_mm h (mx := false) hop hx hy hg.1 hg.2.1 hd
        · cases hc
      · cases hc
    · cases hc
  all_goals cases hc
end
end Go.Vcg

namespace Go.Vcg
section
variable {P : Program} {kf : Nat → Nat} {T : Tb} {X : Nat → Prop} {Y : Env} {w0 w : World} {c : Cx} {s : St} {a : Act}

theorem cOper_spec {ops : Array Oper} {o : Oper} {io : IOper} (h : cOper P kf ops o = some io) : io.dst = o.dst ∧ guardSlot ops o.guard = some io.guard ∧ (cOp P kf o.op o.type = some io.op ∨ io.op = .bad) := by
  unfold cOper at h
  split at h
  · cases h
    refine ⟨rfl, ‹_›, ?_⟩
    simp only [cOpT]
    cases cOp P kf o.op o.type with
    | none => exact .inr rfl
    | some x => exact .inl rfl
  · cases h

theorem cCall_call {cl : Call} {k : Nat} {ys : List Opd} (h : cCall P kf cl = some (.call k ys)) : ∃ f, kf f = k ∧ cl.callee = .value (.func f) ∧ cArgs P cl.argTypes.toList cl.args.toList = some ys := by
  unfold cCall at h
  split at h
  · rename_i g hg
    split at h
    · simp only [Option.map_eq_some_iff] at h
      obtain ⟨zs, hz, h⟩ := h
      cases h
      exact ⟨g, rfl, hg, hz⟩
    · split at h
      · simp only [Option.map_eq_some_iff] at h; obtain ⟨zs, hz, h⟩ := h; cases h
      · simp only [Option.map_eq_some_iff] at h
        obtain ⟨zs, hz, h⟩ := h
        unfold callN at h
        split at h
        · unfold ovlOf at h; split at h <;> cases h
        · cases h
  · simp only [Option.map_eq_some_iff] at h
    obtain ⟨zs, hz, h⟩ := h
    cases h
  · unfold cBuiltin at h
    (repeat' (split at h)) <;> (first | (cases h; done) | (simp only [Option.map_eq_some_iff] at h; obtain ⟨_, _, h⟩ := h; cases h))
  · cases h

theorem cOp_call {op : Op} {U : TypeId} {k : Nat} {ys : List Opd} (h : cOp P kf op U = some (.call k ys)) : ∃ f args argTypes, kf f = k ∧ op = .call { callee := .value (.func f), args, argTypes } ∧ cArgs P argTypes.toList args.toList = some ys := by
  cases op <;> simp only [cOp] at h
  case call cl =>
    obtain ⟨f, h0, h1, h2⟩ := cCall_call h
    obtain ⟨callee, args, argTypes⟩ := cl
    simp only at h1 h2
    subst h1
    exact ⟨f, args, argTypes, h0, rfl, h2⟩
  all_goals (repeat' (split at h)) <;> (first | (cases h; done) | (simp only [Option.map_eq_some_iff] at h; obtain ⟨_, _, h⟩ := h; cases h))

theorem cCall_callx {cl : Call} {k : Nat} {ys : List Opd} (h : cCall P kf cl = some (.callx k ys)) : ∃ f, kf f = k ∧ cl.callee = .value (.func f) ∧ cArgs P cl.argTypes.toList cl.args.toList = some ys := by
  unfold cCall at h
  split at h
  · rename_i g hg
    split at h
    · simp only [Option.map_eq_some_iff] at h
      obtain ⟨zs, hz, h⟩ := h
      cases h
    · split at h
      · simp only [Option.map_eq_some_iff] at h
        obtain ⟨zs, hz, h⟩ := h
        cases h
        exact ⟨g, rfl, hg, hz⟩
      · simp only [Option.map_eq_some_iff] at h
        obtain ⟨zs, hz, h⟩ := h
        unfold callN at h
        split at h
        · unfold ovlOf at h; split at h <;> cases h
        · cases h
  · simp only [Option.map_eq_some_iff] at h
    obtain ⟨zs, hz, h⟩ := h
    cases h
  · unfold cBuiltin at h
    (repeat' (split at h)) <;> (first | (cases h; done) | (simp only [Option.map_eq_some_iff] at h; obtain ⟨_, _, h⟩ := h; cases h))
  · cases h

theorem cOp_callx {op : Op} {U : TypeId} {k : Nat} {ys : List Opd} (h : cOp P kf op U = some (.callx k ys)) : ∃ f args argTypes, kf f = k ∧ op = .call { callee := .value (.func f), args, argTypes } ∧ cArgs P argTypes.toList args.toList = some ys := by
  cases op <;> simp only [cOp] at h
  case call cl =>
    obtain ⟨f, h0, h1, h2⟩ := cCall_callx h
    obtain ⟨callee, args, argTypes⟩ := cl
    simp only at h1 h2
    subst h1
    exact ⟨f, args, argTypes, h0, rfl, h2⟩
  all_goals (repeat' (split at h)) <;> (first | (cases h; done) | (simp only [Option.map_eq_some_iff] at h; obtain ⟨_, _, h⟩ := h; cases h))

theorem cCall_calln {cl : Call} {k : Nat} {ys : List Opd} (h : cCall P kf cl = some (.calln k ys)) : ∃ f, kf f = k ∧ cl.callee = .value (.func f) ∧ cArgs P cl.argTypes.toList cl.args.toList = some ys := by
  unfold cCall at h
  split at h
  · rename_i g hg
    split at h
    · simp only [Option.map_eq_some_iff] at h
      obtain ⟨zs, hz, h⟩ := h
      cases h
    · split at h
      · simp only [Option.map_eq_some_iff] at h
        obtain ⟨zs, hz, h⟩ := h
        cases h
      · simp only [Option.map_eq_some_iff] at h
        obtain ⟨zs, hz, h⟩ := h
        unfold callN at h
        split at h
        · unfold ovlOf at h; split at h <;> cases h
        · cases h
          exact ⟨g, rfl, hg, hz⟩
  · simp only [Option.map_eq_some_iff] at h
    obtain ⟨zs, hz, h⟩ := h
    cases h
  · unfold cBuiltin at h
    (repeat' (split at h)) <;> (first | (cases h; done) | (simp only [Option.map_eq_some_iff] at h; obtain ⟨_, _, h⟩ := h; cases h))
  · cases h

theorem cOp_calln {op : Op} {U : TypeId} {k : Nat} {ys : List Opd} (h : cOp P kf op U = some (.calln k ys)) : ∃ f args argTypes, kf f = k ∧ op = .call { callee := .value (.func f), args, argTypes } ∧ cArgs P argTypes.toList args.toList = some ys := by
  cases op <;> simp only [cOp] at h
  case call cl =>
    obtain ⟨f, h0, h1, h2⟩ := cCall_calln h
    obtain ⟨callee, args, argTypes⟩ := cl
    simp only at h1 h2
    subst h1
    exact ⟨f, args, argTypes, h0, rfl, h2⟩
  all_goals (repeat' (split at h)) <;> (first | (cases h; done) | (simp only [Option.map_eq_some_iff] at h; obtain ⟨_, _, h⟩ := h; cases h))

theorem cCall_callc {cl : Call} {x : Opd} {ys : List Opd} (h : cCall P kf cl = some (.callc x ys)) : ∃ t, x = .t t ∧ cl.callee = .value (.tmp t) ∧ cArgs P cl.argTypes.toList cl.args.toList = some ys := by
  unfold cCall at h
  split at h
  · split at h
    · simp only [Option.map_eq_some_iff] at h
      obtain ⟨zs, hz, h⟩ := h
      cases h
    · split at h
      · simp only [Option.map_eq_some_iff] at h; obtain ⟨zs, hz, h⟩ := h; cases h
      · simp only [Option.map_eq_some_iff] at h
        obtain ⟨zs, hz, h⟩ := h
        unfold callN at h
        split at h
        · unfold ovlOf at h; split at h <;> cases h
        · cases h
  · rename_i t ht
    simp only [Option.map_eq_some_iff] at h
    obtain ⟨zs, hz, h⟩ := h
    cases h
    exact ⟨t, rfl, ht, hz⟩
  · unfold cBuiltin at h
    (repeat' (split at h)) <;> (first | (cases h; done) | (simp only [Option.map_eq_some_iff] at h; obtain ⟨_, _, h⟩ := h; cases h))
  · cases h

theorem cOp_callc {op : Op} {U : TypeId} {x : Opd} {ys : List Opd} (h : cOp P kf op U = some (.callc x ys)) : ∃ t args argTypes, x = .t t ∧ op = .call { callee := .value (.tmp t), args, argTypes } ∧ cArgs P argTypes.toList args.toList = some ys := by
  cases op <;> simp only [cOp] at h
  case call cl =>
    obtain ⟨t, h0, h1, h2⟩ := cCall_callc h
    obtain ⟨callee, args, argTypes⟩ := cl
    simp only at h1 h2
    subst h1
    exact ⟨t, args, argTypes, h0, rfl, h2⟩
  all_goals (repeat' (split at h)) <;> (first | (cases h; done) | (simp only [Option.map_eq_some_iff] at h; obtain ⟨_, _, h⟩ := h; cases h))

theorem act_news {op : IOp} {ev : Opd → D} {lk : Nat → Option Ob} {φ : Prop} {ob : List (Nat × Ob)} {d : D} (h : act T op ev lk = some (φ, .news ob d)) : False ∨ False := by
  cases op <;> simp only [act] at h
  case callx f as => rcases actx_eff h with ⟨_, _, he⟩ | ⟨_, _, _, he⟩ <;> cases he
  case callc x as =>
    unfold actc at h
    split at h
    · split at h
      · rcases actx_eff h with ⟨_, _, he⟩ | ⟨_, _, _, he⟩ <;> cases he
      · cases h
    · cases h
  all_goals exfalso
  all_goals (repeat' (split at h)) <;> (first | (cases h; done) | skip)
  all_goals (simp only [Option.map_eq_some_iff] at h; obtain ⟨r, _, h⟩ := h; cases h)

/-- What is called, with what. -/
def calls (T : Tb) (op : IOp) (ev : Opd → D) (k : Nat) (vals : List D) : Prop :=
  (∃ as, op = .callx k as ∧ vals = as.map ev) ∨ ∃ x as f caps, op = .callc x as ∧ ev x = .clo f caps ∧ f < 1000000 ∧ k = cnum T f ∧ vals = as.map ev ++ caps

theorem act_actx {op : IOp} {ev : Opd → D} {lk : Nat → Option Ob} {φ : Prop} {e : Eff} (h : act T op ev lk = some (φ, e)) (he : (∃ ks d, e = .frz ks d) ∨ ∃ ks d ob, e = .cal ks d ob) : ∃ k vals, calls T op ev k vals ∧ actx T k vals lk = some (φ, e) := by
  cases op <;> simp only [act] at h
  case callx f as => exact ⟨f, _, .inl ⟨as, rfl, rfl⟩, h⟩
  case callc x as =>
    unfold actc at h
    split at h
    · rename_i f caps hx
      split at h
      · rename_i hf
        exact ⟨_, _, .inr ⟨x, as, f, caps, rfl, hx, hf, rfl, rfl⟩, h⟩
      · cases h
    · cases h
  all_goals exfalso
  all_goals (repeat' (split at h)) <;> (first | (cases h; done) | skip)
  all_goals first | (simp only [Option.map_eq_some_iff] at h; obtain ⟨r, _, h⟩ := h; cases h; rcases he with ⟨_, _, he⟩ | ⟨_, _, _, he⟩ <;> cases he) | (cases h; rcases he with ⟨_, _, he⟩ | ⟨_, _, _, he⟩ <;> cases he)

theorem actx_frz {f : Nat} {vals : List D} {lk : Nat → Option Ob} {φ : Prop} {ks : List Nat} {d : D} (h : actx T f vals lk = some (φ, .frz ks d)) : ∃ sp, T.sp f = some sp ∧ sp.hx = none ∧
    φ = (sp.pre (outL lk vals) ∧ closL (outL lk vals) = true) ∧ ks = rowsL vals ∧ d = sp.F (outL lk vals) := by
  unfold actx at h
  split at h
  · cases h
  · rename_i sp hsp
    split at h
    · split at h
      · rename_i hx
        simp only [Option.some.injEq, Prod.mk.injEq, Eff.frz.injEq] at h
        exact ⟨sp, hsp, hx, h.1.symm, h.2.1.symm, h.2.2.symm⟩
      · simp only [hcall, Option.some.injEq, Prod.mk.injEq, reduceCtorEq, and_false] at h
    · cases h

theorem actx_cal {f : Nat} {vals : List D} {lk : Nat → Option Ob} {φ : Prop} {ks : List Nat} {d : D} {ob : List (Nat × Ob)} (h : actx T f vals lk = some (φ, .cal ks d ob)) : ∃ sp hs, T.sp f = some sp ∧ sp.hx = some hs ∧
    φ = (hs.pre (renL (inM ks) vals) (inObs lk ks 0 ks) ∧ apartN ks = true ∧ (ks.all fun k => (lk k).isSome) = true ∧ okNames ks.length ob = true) ∧ d = (hs.F (renL (inM ks) vals) (inObs lk ks 0 ks)).1 ∧ ob = (hs.F (renL (inM ks) vals) (inObs lk ks 0 ks)).2 := by
  unfold actx at h
  split at h
  · cases h
  · rename_i sp hsp
    split at h
    · split at h
      · simp only [Option.some.injEq, Prod.mk.injEq, reduceCtorEq, and_false] at h
      · rename_i hs hx
        simp only [hcall, Option.some.injEq, Prod.mk.injEq, Eff.cal.injEq] at h
        obtain ⟨h1, h2, h3, h4⟩ := h
        rw [h2] at h1 h3 h4
        refine ⟨sp, hs, hsp, hx, ?_, h3.symm, h4.symm⟩
        rw [← h1, h4]
    · cases h

/-- A call runs: it enters a function that does what is said of it. -/
theorem calls_run (hT : TbOK P kf T) (h : Sat T X Y w0 c s a w) {o : Oper} {U : TypeId} {op : IOp} (hop : cOp P kf o.op U = some op) (hg : gus T s op.opds) {k : Nat} {vals : List D} (hc : calls T op (fun x => (x.ev T s).un) k vals) {sp : Sp} (hsp : T.sp k = some sp) :
    ∃ f args, (execOp a.eval o).run P w = .ok (.enter f args) w ∧ FOK P T f sp ∧ RdL (PX X c) w (some c) vals args.toList := by
  rcases hc with ⟨as, rfl, rfl⟩ | ⟨x, as, f, caps, rfl, hx, hf, rfl, rfl⟩
  · obtain ⟨f, args, argTypes, hk, ho, hy⟩ := cOp_callx hop
    subst hk
    simp only [IOp.opds] at hg
    refine ⟨f, args.map a.eval, ?_, (hT.1 f sp hsp).1, by rw [Array.toList_map]; exact cArgs_read h hy hg⟩
    simp only [execOp, ho, resolve, Act.eval, Deferred.ofValue, Sem.run_bind, Sem.run_pure, Result.andThen_ok, invoke]
    simpa using (hT.1 f sp hsp).2 (args.map a.eval) w
  · obtain ⟨t, args, argTypes, hxt, ho, hy⟩ := cOp_callc hop
    subst hxt
    simp only [IOp.opds, gus] at hg
    have hr := h.opdU (P := P) (U := 0) (x := .tmp t) (y := .t t) rfl hg.1
    simp only at hx
    rw [hx] at hr
    simp only [Rd] at hr
    obtain ⟨vs, hv, hvs⟩ := hr
    have hgood := hT.cnum hf hsp
    refine ⟨f, args.map a.eval ++ vs.toArray, ?_, hgood.1, by rw [Array.toList_append, Array.toList_map]; exact (cArgs_read h hy hg.2).append hvs⟩
    simp only [execOp, ho, resolve, hv, Deferred.ofValue, Sem.run_bind, Sem.run_pure, Result.andThen_ok, invoke]
    simpa using hgood.2 (args.map a.eval ++ vs.toArray) w

/-- A call whose rows stay as they are. -/
theorem snd_callf (h : Sat T X Y w0 c s a w) {o : Oper} {f : Nat} {args : Array Value} {ds : List D} {sp : Sp} (hrun : (execOp a.eval o).run P w = .ok (.enter f args) w) (hrd : RdL (PX X c) w (some c) ds args.toList) (hfok : FOK P T f sp) (hhx : sp.hx = none)
    (hpre : sp.pre (outL s.lk ds)) (hcl : closL (outL s.lk ds) = true)
    {K : Act → World → Prop} {Q : Exit → Act → World → Prop} (hK : ∀ v w', Sat T X Y w0 (c.drops (rowsL ds)) (s.frz (rowsL ds)) a w' → Rd (PX X (c.drops (rowsL ds))) w' (some (c.drops (rowsL ds))) (sp.F (outL s.lk ds)) v → K (a.put o.dst v) w') : o.wp P a w K Q := by
  unfold Oper.wp
  rw [hrun, Oper.upon_enter]
  have h' := h.frz (rowsL ds)
  have hargs : RdL (PX X (c.drops (rowsL ds))) w none (outL s.lk ds) args.toList := by
    -- rows of ds are all let go: what is read is closed
    have key : ∀ (es : List D) {vs : List Value}, (∀ k ∈ rowsL es, k ∈ rowsL ds) → RdL (PX X c) w (some c) es vs → closL (outL s.lk es) = true → RdL (PX X (c.drops (rowsL ds))) w none (outL s.lk es) vs := by
      intro es vs hsub hr hc
      refine Sat.outs' h (ks := rowsL ds) es hsub hr hc
    exact key ds (fun _ h => h) hrd hcl
  refine (hfok.plain hhx (PX X (c.drops (rowsL ds))) w _ _ (fun x hx hp => ?_) h'.gl hargs hpre).mono fun e w' ⟨v, he, hv, hE⟩ => ?_
  · have hw0 := h.ext.size
    rcases hp with hp | ⟨k, hl, hk⟩ | ⟨k, hk⟩
    · exact h.Xb x (by omega) hp
    · have := h'.id_lt hl hk; omega
    · have := (h'.owf x k hk).2.2; omega
  · subst he
    exact hK v w' (h'.world hE) hv.closed

/-- A call that is handed objects. -/
theorem snd_callx (h : Sat T X Y w0 c s a w) {o : Oper} {f : Nat} {args : Array Value} {ds : List D} {sp : Sp} {hs : HSp} (hrun : (execOp a.eval o).run P w = .ok (.enter f args) w) (hrd : RdL (PX X c) w (some c) ds args.toList) (hfok : FOK P T f sp) (hhx : sp.hx = some hs)
    {ks : List Nat} (hpre : hs.pre (renL (inM ks) ds) (inObs s.lk ks 0 ks)) (hap : apartN ks = true) (hall : (ks.all fun k => (s.lk k).isSome) = true) {d : D} {ob : List (Nat × Ob)} (hd : d = (hs.F (renL (inM ks) ds) (inObs s.lk ks 0 ks)).1) (hob : ob = (hs.F (renL (inM ks) ds) (inObs s.lk ks 0 ks)).2)
    (hok : okNames ks.length ob = true) {j : Nat} (hj : (ob.all fun p => decide (baseN ≤ p.1) || (!(s.lk (10000 * (j + 1) + p.1)).isSome && decide (10000 * (j + 1) + p.1 < baseN))) = true)
    {K : Act → World → Prop} {Q : Exit → Act → World → Prop} (hK : ∀ v c' w', Sat T X Y w0 c' ⟨forgetLs (goneK ob 0 ks) s.tm, putObs (outObs j ks ob) (dropObs (goneK ob 0 ks) s.ob)⟩ a w' → Rd (PX X c') w' (some c') (d.ren (outM j ks)) v → K (a.put o.dst v) w') : o.wp P a w K Q := by
  unfold Oper.wp
  rw [hrun, Oper.upon_enter]
  have hall' : ∀ k ∈ ks, (s.lk k).isSome = true := by simpa [List.all_eq_true] using hall
  unfold FOK at hfok
  rw [hhx] at hfok
  have hent := h.enter hap hall' (ds := ds) (args := args) hrd
  have hbase : ∀ k, ((inObs s.lk ks 0 ks).lookup k).isSome = true → baseN ≤ k := by
    intro k hk
    rw [lk_inObs s.lk ks ks 0 k hall'] at hk
    split at hk
    · rename_i hb; simpa using hb
    · cases hk
  refine (hfok _ w _ _ _ _ hent hbase hpre).mono fun e w' ⟨v, c2, he, hS⟩ => ?_
  subst he
  rw [← hd, ← hob] at hS
  have hmem : ∀ (l : List (Nat × Ob)) k, (l.lookup k).isSome = true → ∃ o, (k, o) ∈ l := by
    intro l k
    induction l with
    | nil => intro h; simp [List.lookup] at h
    | cons q l ih =>
      intro h
      obtain ⟨q1, q2⟩ := q
      by_cases hq : k = q1
      · exact ⟨q2, by simp [hq]⟩
      · have : (k == q1) = false := by simpa using hq
        simp only [List.lookup, this] at h
        obtain ⟨o, ho⟩ := ih h
        exact ⟨o, List.mem_cons_of_mem _ ho⟩
  obtain ⟨g1, g2⟩ := h.leave hap hall' hS hok (j := j) (fun k hk hlt => by
    obtain ⟨o', ho'⟩ := hmem ob k hk
    rw [List.all_eq_true] at hj
    have := hj _ ho'
    simp only [Bool.or_eq_true, decide_eq_true_eq, Bool.and_eq_true, Bool.not_eq_true'] at this
    rcases this with h1 | ⟨h1, h2⟩
    · omega
    · refine ⟨?_, h2⟩
      cases hq : s.lk (10000 * (j + 1) + k) with
      | none => rfl
      | some _ => rw [hq] at h1; cases h1)
  exact hK v _ w' g1 g2

mutual
theorem ren_clos (m : Nat → Option Nat) : ∀ d : D, d.clos = true → d.ren m = d
  | .agg cs, h => by simp only [D.clos] at h; simp only [D.ren, renL_clos m cs h]
  | .tup cs, h => by simp only [D.clos] at h; simp only [D.ren, renL_clos m cs h]
  | .clo f cs, h => by simp only [D.clos] at h; simp only [D.ren, renL_clos m cs h]
  | .own _ _, h | .row _, h | .elr _ _ _ _, h | .vw _ _ _ _ _, h | .wh _ _, h => by simp [D.clos] at h
  | .int _ _, _ | .bool _, _ | .str _, _ | .nilp, _ | .nl _, _ | .fz _ _, _ | .ad _ _ _ _, _ | .any, _ | .ub, _ | .err _, _ | .xad _, _ => by simp only [D.ren]
theorem renL_clos (m : Nat → Option Nat) : ∀ ds : List D, closL ds = true → renL m ds = ds
  | [], _ => by simp only [renL]
  | d :: r, h => by
    simp only [closL, Bool.and_eq_true] at h
    simp only [renL, ren_clos m d h.1, renL_clos m r h.2]
end

/-- A call that answers new objects. -/
theorem snd_calln (hT : TbOK P kf T) (h : Sat T X Y w0 c s a w) {o : Oper} {f : Nat} {args : Array Operand} {argTypes : Array TypeId} {ys : List Opd} {sp : Sp} {hs : HSp} (ho : o.op = .call { callee := .value (.func f), args, argTypes }) (hc : cArgs P argTypes.toList args.toList = some ys) (hg : gus T s ys) (hsp : T.sp (kf f) = some sp) (hhx : sp.hx = some hs)
    (hpre : hs.pre (ys.map fun x => (x.ev T s).un.out s.lk) []) (hcl : closL (ys.map fun x => (x.ev T s).un.out s.lk) = true) (hnr : norowL (ys.map fun x => (x.ev T s).un) = true) (hok : okNames 0 (hs.F (ys.map fun x => (x.ev T s).un.out s.lk) []).2 = true)
    {j : Nat} (hj : ((outObs j [] (hs.F (ys.map fun x => (x.ev T s).un.out s.lk) []).2).all fun p => !(s.lk p.1).isSome && decide (p.1 < baseN)) = true) {K : Act → World → Prop} {Q : Exit → Act → World → Prop}
    (hK : ∀ v c' w', Sat T X Y w0 c' ⟨s.tm, putObs (outObs j [] (hs.F (ys.map fun x => (x.ev T s).un.out s.lk) []).2) s.ob⟩ a w' → Rd (PX X c') w' (some c') ((hs.F (ys.map fun x => (x.ev T s).un.out s.lk) []).1.ren (outM j [])) v → K (a.put o.dst v) w') : o.wp P a w K Q := by
  have hrd := cArgs_read h hc hg
  have hmap : (ys.map fun x => (x.ev T s).un.out s.lk) = outL s.lk (ys.map fun y => (y.ev T s).un) := by rw [outL_map, List.map_map]; rfl
  have hrun : (execOp a.eval o).run P w = .ok (.enter f (args.map a.eval)) w := by
    simp only [execOp, ho, resolve, Act.eval, Deferred.ofValue, Sem.run_bind, Sem.run_pure, Result.andThen_ok, invoke]
    simpa using (hT.1 f sp hsp).2 (args.map a.eval) w
  have hargs : RdL (PX X c) w (some c) (ys.map fun x => (x.ev T s).un.out s.lk) (args.map a.eval).toList := by
    rw [hmap] at hcl ⊢
    rw [Array.toList_map]
    exact (Sat.outs h (fun _ _ h => h) _ (.inl hnr) hrd hcl).closedL
  generalize (ys.map fun x => (x.ev T s).un.out s.lk) = ds at *
  have hren : renL (inM []) ds = ds := renL_clos _ ds hcl
  have hgone : ∀ ob : List (Nat × Ob), goneK ob 0 [] = [] := fun ob => rfl
  have hin : inObs s.lk [] 0 [] = [] := rfl
  refine snd_callx h hrun hargs (hT.1 f sp hsp).1 hhx (ks := []) (by rw [hren, hin]; exact hpre) rfl rfl (d := (hs.F ds []).1) (ob := (hs.F ds []).2) (by rw [hren, hin]) (by rw [hren, hin]) hok (j := j) ?_ (K := K) (Q := Q) fun v c' w' hS hd => ?_
  · rw [List.all_eq_true] at hj ⊢
    intro p hp
    obtain ⟨n, o'⟩ := p
    have hlt : n < 10000 := by
      have : (((hs.F ds []).2).lookup n).isSome = true := by
        have : ∀ (l : List (Nat × Ob)), (n, o') ∈ l → (l.lookup n).isSome = true := by
          intro l
          induction l with
          | nil => intro h; cases h
          | cons q l ih =>
            intro hm
            obtain ⟨q1, q2⟩ := q
            by_cases hq : n = q1
            · simp [List.lookup, hq]
            · have h1 : (n == q1) = false := by simpa using hq
              simp only [List.lookup, h1]
              rcases List.mem_cons.1 hm with hm | hm
              · cases hm; exact absurd rfl hq
              · exact ih hm
        exact this _ hp
      rcases okNames_spec hok this with h1 | ⟨h1, h2⟩
      · exact h1
      · omega
    have hb := baseN_big
    have hm : outM j [] n = some (10000 * (j + 1) + n) := by unfold outM; rw [if_pos (by omega)]
    have hmem : ∀ (l : List (Nat × Ob)), (n, o') ∈ l → ∃ o2, (10000 * (j + 1) + n, o2) ∈ outObs j [] l := by
      intro l
      induction l with
      | nil => intro h; cases h
      | cons q l ih =>
        intro hq
        obtain ⟨q1, q2⟩ := q
        rcases List.mem_cons.1 hq with hq | hq
        · cases hq
          simp only [outObs, hm]
          exact ⟨_, List.mem_cons_self ..⟩
        · obtain ⟨o2, h2⟩ := ih hq
          refine ⟨o2, ?_⟩
          simp only [outObs]
          split
          · exact List.mem_cons_of_mem _ h2
          · exact h2
    obtain ⟨o2, h2⟩ := hmem _ hp
    have := hj _ h2
    simp only [Bool.or_eq_true, decide_eq_true_eq]
    exact .inr this
  · rw [hgone] at hS
    exact hK v c' w' hS hd

theorem cOp_pick {op : Op} {U : TypeId} {x y z : Opd} (h : cOp P kf op U = some (.pick x y z)) : ∃ a b c, op = .pick a b c ∧ cOpd P 0 a = some x ∧ cOpd P U b = some y ∧ cOpd P U c = some z := by
  cases op <;> simp only [cOp] at h
  case pick a b c =>
    split at h
    · rename_i h1 h2 h3
      cases h
      exact ⟨a, b, c, rfl, h1, h2, h3⟩
    · cases h
  case call cl =>
    unfold cCall at h
    split at h
    · split at h
      · simp only [Option.map_eq_some_iff] at h
        obtain ⟨_, _, h⟩ := h
        cases h
      · split at h
        · simp only [Option.map_eq_some_iff] at h; obtain ⟨_, _, h⟩ := h; cases h
        · simp only [Option.map_eq_some_iff] at h
          obtain ⟨_, _, h⟩ := h
          unfold callN at h
          split at h
          · unfold ovlOf at h; split at h <;> cases h
          · cases h
    · simp only [Option.map_eq_some_iff] at h
      obtain ⟨_, _, h⟩ := h
      cases h
    · unfold cBuiltin at h
      (repeat' (split at h)) <;> (first | (cases h; done) | (simp only [Option.map_eq_some_iff] at h; obtain ⟨_, _, h⟩ := h; cases h))
    · cases h
  all_goals (repeat' (split at h)) <;> (first | (cases h; done) | (simp only [Option.map_eq_some_iff] at h; obtain ⟨_, _, h⟩ := h; cases h))

theorem applyE_val {dst : Option Nat} {g : Option (Nat × Bool)} {G : Bool} {d : D} {s' : St} (h : applyE s dst g G (.val d) = some s') : s' = s.set dst (wrapD g G d) := by
  simp only [applyE, Option.some.injEq] at h; exact h.symm

/-- One operation, in whatever state meets the walk's. -/
theorem step_sound (hT : TbOK P kf T) (h : Sat T X Y w0 c s a w) {ops : Array Oper} {o : Oper} {io : IOper} (hc : cOper P kf ops o = some io) {φ : Prop} {s' : St} (hst : istep T s io = some (φ, s')) (hφ : φ)
    {K : Act → World → Prop} {Q : Exit → Act → World → Prop} (hK : ∀ c' a' w', Sat T X Y w0 c' s' a' w' → K a' w') :
    if Region.wanted o (yielded ops a.tmps) = true then o.wp P a w K Q else K (a.put o.dst undef) w := by
  obtain ⟨hdst, hguard, hop⟩ := cOper_spec hc
  have hop : cOp P kf o.op o.type = some io.op := by
    rcases hop with hop | hop
    · exact hop
    · unfold istep at hst
      rw [hop] at hst
      split at hst
      · cases hst
      · simp only [act] at hst
        cases hst
  unfold istep at hst
  cases hG : gd s io.guard with
  | none => rw [hG] at hst; cases hst
  | some G =>
    rw [hG] at hst
    simp only at hst
    have hw := h.guard hguard hG
    -- where it is not carried out
    have skip : G = false → ∀ d, s' = s.set io.dst (wrapD io.guard G d) → K (a.put o.dst undef) w := by
      intro hGf d hs
      subst hs
      rw [hdst] at hK
      cases hg : io.guard with
      | none => rw [hg] at hG; simp [gd] at hG; rw [hGf] at hG; cases hG
      | some jw =>
        rw [hg, hGf] at hK
        exact hK c _ _ (h.put o.dst wrap_undef)
    -- a datum
    have val : G = true → ∀ d, Yld P X c a w o d → s' = s.set io.dst (wrapD io.guard G d) → o.wp P a w K Q := by
      intro hGt d ⟨v, hr, hd⟩ hs
      subst hs
      unfold Oper.wp
      rw [hr, Oper.upon_value]
      rw [hdst] at hK
      exact hK c _ _ (h.put o.dst (wrap_read hd hGt))
    rw [hw]
    split at hst
    · -- pick
      rename_i x y z hio
      rw [hio] at hop
      split at hst
      · rename_i b hb
        split at hst
        · rename_i d hd
          cases hst
          cases hGv : G with
          | false => simp only [Bool.false_eq_true, if_false]; exact skip hGv _ rfl
          | true =>
            simp only [if_true]
            obtain ⟨p1, p2, p3⟩ := hφ hGv
            obtain ⟨x0, y0, z0, ho, hx, hy, hz⟩ := cOp_pick hop
            exact val hGv d (snd_pick h ho hx hy hz hb hd p1 p2 p3) rfl
        · cases hst
      · cases hst
    · -- call
      rename_i f ys hio
      rw [hio] at hop
      split at hst
      · rename_i sp hsp
        split at hst
        case isFalse => cases hst
        cases hst
        cases hGv : G with
        | false => simp only [Bool.false_eq_true, if_false]; exact skip hGv _ rfl
        | true =>
          simp only [if_true]
          obtain ⟨p0, p1, p2, p3, p4⟩ := hφ hGv
          obtain ⟨f', args, argTypes, hk, ho, hx⟩ := cOp_call hop
          subst hk
          refine snd_call hT h ho hx p1 hsp p0 p2 p3 p4 (K := K) (Q := Q) fun v w' hS hd => ?_
          rw [hdst] at hK
          exact hK c _ _ (hS.put o.dst (wrap_read hd hGv))
      · cases hst
    · -- a call that answers new objects
      rename_i f ys hio
      rw [hio] at hop
      split at hst
      · rename_i sp hsp
        split at hst
        · rename_i hs hhx
          split at hst
          · rename_i hcond
            split at hst
            · rename_i s'' happ
              cases hst
              simp only [applyE] at happ
              split at happ
              · rename_i k hg hk
                split at happ
                · rename_i hall
                  cases happ
                  rw [hg] at hG
                  simp [gd] at hG
                  subst hG
                  simp only [if_true]
                  obtain ⟨p1, p2, p3, p4⟩ := hφ rfl
                  obtain ⟨f', args, argTypes, hkf, ho, hx⟩ := cOp_calln hop
                  subst hkf
                  refine snd_calln hT h ho hx p1 hsp hhx p2 p3 hcond.2 p4 (j := k) hall (K := K) (Q := Q) fun v c' w' hS hd => ?_
                  rw [hdst] at hk
                  have := hS.put o.dst hd
                  rw [hk] at this ⊢
                  exact hK c' _ _ this
                · cases happ
              · cases happ
            · cases hst
          · cases hst
        · cases hst
      · cases hst
    · rename_i hn1 hn2 hn3
      split at hst
      · cases hst
      · rename_i φ' e hact
        split at hst
        · cases hst
        · rename_i s'' happ
          cases hst
          have hok : G = true → ActOK P T X Y w0 c s a w o e := fun hGt => by
            obtain ⟨p1, p2⟩ := hφ hGt
            exact act_ok hT.2.2.2 h hop hact p2 p1
          cases e with
          | val d =>
            have hs := applyE_val happ
            cases hGv : G with
            | false => simp only [Bool.false_eq_true, if_false]; exact skip hGv d hs
            | true => simp only [if_true]; exact val hGv d (hok hGv) hs
          | new ob ptr =>
            simp only [applyE] at happ
            split at happ
            · rename_i k hg hk
              split at happ
              · cases happ
              · rename_i hlk
                cases happ
                rw [hg] at hG
                simp [gd] at hG
                subst hG
                simp only [if_true]
                simp only [not_or, Nat.not_le] at hlk
                obtain ⟨v, w', c', hr, hS⟩ := hok rfl k (hdst ▸ hk) (by simpa using hlk.1) hlk.2
                unfold Oper.wp
                rw [hr, Oper.upon_value]
                exact hK c' _ _ (by rw [hk]; exact hS)
            · cases happ
          | put k ob =>
            simp only [applyE] at happ
            split at happ
            · rename_i hg hk
              cases happ
              rw [hg] at hG
              simp [gd] at hG
              subst hG
              simp only [if_true]
              obtain ⟨w', hr, hS⟩ := hok rfl (hdst ▸ hk)
              unfold Oper.wp
              rw [hr, Oper.upon_skip]
              exact hK c _ _ hS
            · cases happ
          | mv ko ob =>
            simp only [applyE] at happ
            split at happ
            · rename_i j hg hk
              split at happ
              · cases happ
              · rename_i hlk
                rw [hg] at hG
                simp [gd] at hG
                subst hG
                simp only [if_true]
                simp only [not_or, Nat.not_le] at hlk
                obtain ⟨hlk, hjb⟩ := hlk
                cases ko with
                | none =>
                  cases happ
                  obtain ⟨v, w', c', hr, hS⟩ := hok rfl j (hdst ▸ hk) (by
                    cases hl : s.lk j with
                    | none => rfl
                    | some _ => simp [hl] at hlk) hjb
                  unfold Oper.wp
                  rw [hr, Oper.upon_value]
                  exact hK c' _ _ (by rw [hk]; exact hS)
                | some k =>
                  cases happ
                  obtain ⟨v, w', c', hr, hS⟩ := hok rfl j (hdst ▸ hk) (by
                    cases hl : s.lk j with
                    | none => exact .inl rfl
                    | some _ =>
                      right
                      simp [hl] at hlk
                      exact hlk.symm) hjb
                  unfold Oper.wp
                  rw [hr, Oper.upon_value]
                  exact hK c' _ _ (by rw [hk]; exact hS)
            · cases happ
          | mv2 k k2 ob =>
            simp only [applyE] at happ
            split at happ
            · rename_i j hg hk
              split at happ
              · cases happ
              · rename_i hlk
                cases happ
                rw [hg] at hG
                simp [gd] at hG
                subst hG
                simp only [if_true]
                simp only [not_or, Nat.not_le] at hlk
                obtain ⟨v, w', c', hr, hS⟩ := hok rfl j (hdst ▸ hk) (by simpa using hlk.1) hlk.2
                unfold Oper.wp
                rw [hr, Oper.upon_value]
                exact hK c' _ _ (by rw [hk]; exact hS)
            · cases happ
          | news ob d =>
            exfalso
            rcases act_news hact with h0 | h0 <;> exact h0
          | putv k ob d =>
            simp only [applyE] at happ
            split at happ
            · rename_i hg
              cases happ
              rw [hg] at hG
              simp [gd] at hG
              subst hG
              simp only [if_true]
              obtain ⟨v, w', hr, hS⟩ := hok rfl
              unfold Oper.wp
              rw [hr, Oper.upon_value]
              rw [hdst] at hK
              exact hK c _ _ hS
            · cases happ
          | frz ks d =>
            simp only [applyE] at happ
            split at happ
            · rename_i hg
              cases happ
              rw [hg] at hG
              simp [gd] at hG
              subst hG
              simp only [if_true]
              obtain ⟨k, vals, hcl, hax⟩ := act_actx hact (.inl ⟨_, _, rfl⟩)
              obtain ⟨sp, e2, e3, e4, e5, e6⟩ := actx_frz hax
              obtain ⟨p1, p2⟩ := hφ rfl
              rw [e4] at p2
              obtain ⟨f, args, hrun, hfok, hrd⟩ := calls_run hT h hop p1 hcl e2
              refine snd_callf h hrun hrd hfok e3 p2.1 p2.2 (K := K) (Q := Q) fun v w' hS hd => ?_
              rw [hdst] at hK
              subst e5 e6
              exact hK _ _ _ (hS.put o.dst hd)
            · rename_i jw hg
              split at happ
              · rename_i hks
                have hks0 : ks = [] := by simpa using hks
                subst hks0
                cases happ
                cases hGv : G with
                | false => simp only [Bool.false_eq_true, if_false]; exact skip hGv d (by rw [hg])
                | true =>
                  simp only [if_true]
                  obtain ⟨k, vals, hcl, hax⟩ := act_actx hact (.inl ⟨_, _, rfl⟩)
                  obtain ⟨sp, e2, e3, e4, e5, e6⟩ := actx_frz hax
                  obtain ⟨p1, p2⟩ := hφ hGv
                  rw [e4] at p2
                  obtain ⟨f, args, hrun, hfok, hrd⟩ := calls_run hT h hop p1 hcl e2
                  refine snd_callf h hrun hrd hfok e3 p2.1 p2.2 (K := K) (Q := Q) fun v w' hS hd => ?_
                  rw [← e5, frz_nil] at hS
                  rw [hdst] at hK
                  rw [← e5, ← e6] at hd
                  exact hK _ _ _ (hS.put o.dst (wrap_read hd hGv))
              · cases happ
          | cal ks d ob =>
            simp only [applyE] at happ
            split at happ
            · rename_i hg
              split at happ
              · rename_i hnm
                cases happ
                rw [hg] at hG
                simp [gd] at hG
                subst hG
                simp only [if_true]
                obtain ⟨k, vals, hcl, hax⟩ := act_actx hact (.inr ⟨_, _, _, rfl⟩)
                obtain ⟨sp, hs, e2, e3, e4, e5, e6⟩ := actx_cal hax
                obtain ⟨p1, p2⟩ := hφ rfl
                rw [e4] at p2
                obtain ⟨f, args, hrun, hfok, hrd⟩ := calls_run hT h hop p1 hcl e2
                refine snd_callx h hrun hrd hfok e3 p2.1 p2.2.1 p2.2.2.1 e5 e6 p2.2.2.2 hnm (K := K) (Q := Q) fun v c' w' hS hd => ?_
                rw [hdst] at hK hS hd
                exact hK _ _ _ (hS.put o.dst hd)
              · cases happ
            · cases happ
end
end Go.Vcg

namespace Go.Vcg

/-! ### What an operation does, of its operands and of the objects -/
def gusE (ev : Opd → D) : List Opd → Prop
  | [] => True
  | x :: r => (ev x).gu = true ∧ gusE ev r

theorem gus_eq (T : Tb) (s : St) : ∀ l, gus T s l = gusE (fun x => x.ev T s) l
  | [] => rfl
  | x :: r => by simp only [gus, gusE, gus_eq T s r]

theorem gusE_mem {ev : Opd → D} : ∀ {l : List Opd}, gusE ev l → ∀ x ∈ l, (ev x).gu = true
  | [], _, x, hx => by simp at hx
  | y :: r, h, x, hx => by
    simp only [gusE] at h
    rcases List.mem_cons.1 hx with rfl | hx
    · exact h.1
    · exact gusE_mem h.2 x hx

theorem gusE_congr {ev ev' : Opd → D} : ∀ {l : List Opd}, (∀ x ∈ l, ev x = ev' x) → gusE ev l = gusE ev' l
  | [], _ => rfl
  | y :: r, h => by
    simp only [gusE]
    rw [h y (by simp), gusE_congr (l := r) fun x hx => h x (by simp [hx])]

def opE (T : Tb) (ev : Opd → D) (lk : Nat → Option Ob) (op : IOp) : Option (Prop × Eff) :=
  match op with
  | .pick c a b =>
    match (ev c).un with
    | .bool cb =>
      match pickD cb (ev a).un (ev b).un with
      | some d => some ((ev c).gu = true ∧ (cb = true → (ev a).gu = true) ∧ (cb = false → (ev b).gu = true), .val d)
      | none => none
    | _ => none
  | .call f as =>
    match T.sp f with
    | some sp =>
      if lvL lk (as.map fun x => (ev x).un) = true then
        some (sp.hx = none ∧ gusE ev as ∧ sp.pre (as.map fun x => (ev x).un.out lk) ∧ closL (as.map fun x => (ev x).un.out lk) = true ∧
            (norowL (as.map fun x => (ev x).un) = false → (sp.F (as.map fun x => (ev x).un.out lk)).scal = true), .val (sp.F (as.map fun x => (ev x).un.out lk)))
      else none
    | none => none
  | .calln f as =>
    match T.sp f with
    | some sp =>
      match sp.hx with
      | some hs =>
        if lvL lk (as.map fun x => (ev x).un) = true ∧ norowL (as.map fun x => (ev x).un) = true then
          some (gusE ev as ∧ hs.pre (as.map fun x => (ev x).un.out lk) [] ∧ closL (as.map fun x => (ev x).un.out lk) = true ∧ okNames 0 (hs.F (as.map fun x => (ev x).un.out lk) []).2 = true, .news (hs.F (as.map fun x => (ev x).un.out lk) []).2 (hs.F (as.map fun x => (ev x).un.out lk) []).1)
        else none
      | none => none
    | none => none
  | op =>
    match act T op (fun x => (ev x).un) lk with
    | none => none
    | some (φ, e) => some (gusE ev op.opds ∧ φ, e)

theorem istep_eq (T : Tb) (s : St) (o : IOper) : istep T s o =
    match gd s o.guard with
    | none => none
    | some G =>
      match opE T (fun x => x.ev T s) s.lk o.op with
      | none => none
      | some (ψ, e) =>
        match applyE s o.dst o.guard G e with
        | none => none
        | some s' => some (G = true → ψ, s') := by
  unfold istep
  cases hG : gd s o.guard with
  | none => rfl
  | some G =>
    simp only
    generalize hop : o.op = op
    cases op
    case pick c a b =>
      simp only [opE]
      cases hc : (c.ev T s).un <;> simp only
      cases hp : pickD _ (a.ev T s).un (b.ev T s).un <;> simp only [applyE]
    case call f as =>
      simp only [opE]
      cases hs : T.sp f <;> simp only
      split
      · simp only [applyE, gus_eq]
      · rfl
    case calln f as =>
      simp only [opE, gus_eq]
      cases hs : T.sp f with
      | none => rfl
      | some sp =>
        simp only
        cases hh : sp.hx with
        | none => rfl
        | some hx =>
          simp only
          by_cases hc : lvL s.lk (List.map (fun x => (Opd.ev T s x).un) as) = true ∧ norowL (List.map (fun x => (Opd.ev T s x).un) as) = true
          · rw [if_pos hc, if_pos hc]
            simp only
            generalize applyE s o.dst o.guard G _ = q
            cases q <;> rfl
          · rw [if_neg hc, if_neg hc]
    all_goals
      simp only [opE, gus_eq]
      generalize act T _ _ _ = r
      cases r with
      | none => rfl
      | some p => rfl

theorem fillParts_congr {ev ev' : Opd → D} : ∀ {ps : List (Nat × Nat × Opd)} (cs : List D), (∀ x ∈ ps.map (·.2.2), ev x = ev' x) → fillParts ev ps cs = fillParts ev' ps cs
  | [], _, _ => rfl
  | (off, n, x) :: r, cs, h => by
    simp only [fillParts]
    rw [h x (by simp), fillParts_congr (ps := r) _ fun y hy => h y (by simp only [List.map_cons, List.mem_cons]; exact .inr hy)]
theorem fillRows_congr {sz : Nat} {ev ev' : Opd → D} : ∀ {ps : List (Nat × Opd)} (cs : List (List D)), (∀ x ∈ ps.map (·.2), ev x = ev' x) → fillRows sz ev ps cs = fillRows sz ev' ps cs
  | [], _, _ => rfl
  | (off, x) :: r, cs, h => by
    simp only [fillRows]
    rw [h x (by simp), fillRows_congr (ps := r) _ fun y hy => h y (by simp only [List.map_cons, List.mem_cons]; exact .inr hy)]

theorem act_congr {T : Tb} {ev ev' : Opd → D} {lk : Nat → Option Ob} {op : IOp} (h : ∀ x ∈ op.opds, ev x = ev' x) : act T op ev lk = act T op ev' lk := by
  cases op
  case build z ps => simp only [act, fillParts_congr z h]
  case bslice sz z ps => simp only [act, fillRows_congr z h]
  case slc3 n x lo hi mx =>
    simp only [IOp.opds, List.mem_cons] at h
    have h1 : lo.map ev = lo.map ev' := by cases lo with | none => rfl | some l => simp [h l (by simp)]
    simp only [act, h x (by simp), h hi (by simp), h mx (by simp), h1]
  case callx f as =>
    have h1 : as.map ev = as.map ev' := List.map_congr_left fun x hx => h x hx
    simp only [act, h1]
  case callc x as =>
    simp only [IOp.opds, List.mem_cons, forall_eq_or_imp] at h
    have h1 : as.map ev = as.map ev' := List.map_congr_left fun x hx => h.2 x hx
    simp only [act, h1, h.1]
  case mkclo f caps =>
    have h1 : caps.map ev = caps.map ev' := List.map_congr_left fun x hx => h x hx
    simp only [act, h1]
  case bad => rfl
  case slc n x lo hi =>
    simp only [IOp.opds, List.mem_cons, List.mem_append] at h
    have h1 : lo.map ev = lo.map ev' := by cases lo with | none => rfl | some l => simp [h l (by simp)]
    have h2 : hi.map ev = hi.map ev' := by cases hi with | none => rfl | some l => simp [h l (by simp)]
    simp only [act, h x (by simp), h1, h2]
  case sslc x lo hi =>
    simp only [IOp.opds, List.mem_cons, List.mem_append] at h
    have h1 : lo.map ev = lo.map ev' := by cases lo with | none => rfl | some l => simp [h l (by simp)]
    have h2 : hi.map ev = hi.map ev' := by cases hi with | none => rfl | some l => simp [h l (by simp)]
    simp only [act, h x (by simp), h1, h2]
  all_goals
    simp only [IOp.opds, List.mem_cons, List.mem_nil_iff, or_false, forall_eq_or_imp, forall_eq] at h
    simp only [act, h]

theorem opE_congr {T : Tb} {ev ev' : Opd → D} {lk : Nat → Option Ob} {op : IOp} (h : ∀ x ∈ op.opds, ev x = ev' x) : opE T ev lk op = opE T ev' lk op := by
  cases op
  case pick c a b =>
    simp only [IOp.opds, List.mem_cons, List.mem_nil_iff, or_false, forall_eq_or_imp, forall_eq] at h
    simp only [opE, h]
  case call f as =>
    have h1 : (as.map fun x => (ev x).un) = as.map fun x => (ev' x).un := List.map_congr_left fun x hx => by rw [h x hx]
    have h2 : (as.map fun x => (ev x).un.out lk) = as.map fun x => (ev' x).un.out lk := List.map_congr_left fun x hx => by rw [h x hx]
    have h3 : gusE ev as = gusE ev' as := gusE_congr h
    simp only [opE, h1, h2, h3]
  case calln f as =>
    have h1 : (as.map fun x => (ev x).un) = as.map fun x => (ev' x).un := List.map_congr_left fun x hx => by rw [h x hx]
    have h2 : (as.map fun x => (ev x).un.out lk) = as.map fun x => (ev' x).un.out lk := List.map_congr_left fun x hx => by rw [h x hx]
    have h3 : gusE ev as = gusE ev' as := gusE_congr h
    simp only [opE, h1, h2, h3]
  all_goals
    simp only [opE]
    rw [act_congr (ev := fun x => (ev x).un) (ev' := fun x => (ev' x).un) fun x hx => by rw [h x hx], gusE_congr h]

/-! ### Classes -/
inductive Cl where
  | pure | read | new | store | mv
  deriving DecidableEq

def isNl : Opd → Bool
  | .c (.nl _) => true
  | _ => false
def IOp.cl : IOp → Cl
  | .mov _ | .pick .. | .build .. | .faddr .. | .field .. | .iarr .. | .bin .. | .eqa .. | .eqb .. | .un .. | .conv .. | .nilc _ | .ext .. | .lens _ | .mm .. | .convw _ | .sadd .. | .sidx .. | .sslc .. | .slca .. | .eqs .. | .slc3 .. | .mkclo .. | .capo _ => .pure
  | .load .. | .iaddr .. | .len _ | .nileq .. | .ileq .. | .slc .. | .bts _ | .call .. => .read
  | .alloc _ | .box _ | .bslice .. | .emp .. | .mks .. | .calln .. | .bs0 _ => .new
  | .bnew .. | .callx .. | .bad | .callc .. | .appz .. | .clr .. | .cpy .. | .ovl .. | .gfz _ | .gop _ | .gcl _ | .gou _ _ | .gcx _ _ | .gsx | .gsr | .gbx _ => .mv
  | .append _ _ x _ => if isNl x = true then .new else .mv
  | .store .. => .store

theorem opE_pure {T : Tb} {ev : Opd → D} {lk lk' : Nat → Option Ob} {op : IOp} (h : op.cl = .pure) : opE T ev lk op = opE T ev lk' op := by
  cases op
  case append _ _ x _ => simp only [IOp.cl] at h; split at h <;> cases h
  all_goals first | (cases h; done) | rfl

theorem opE_val {T : Tb} {ev : Opd → D} {lk : Nat → Option Ob} {op : IOp} (h : op.cl = .pure ∨ op.cl = .read) {ψ : Prop} {e : Eff} (he : opE T ev lk op = some (ψ, e)) : ∃ d, e = .val d := by
  cases op
  case append _ _ x _ => simp only [IOp.cl] at h; split at h <;> simp at h
  case bin op x y =>
    simp only [opE, act] at he
    cases hb : binD op (ev x).un (ev y).un with
    | none => simp [hb] at he
    | some p => simp [hb] at he; exact ⟨_, he.2.symm⟩
  case eqa ng ks x y =>
    simp only [opE, act] at he
    repeat' (split at he)
    all_goals first | (cases he; done) | skip
    all_goals
      rename_i hq
      repeat' (split at hq)
      all_goals first | (cases hq; done) | skip
      all_goals
        cases he
        simp only [Option.map_eq_some_iff] at hq
        obtain ⟨_, _, hq⟩ := hq
        cases hq
        exact ⟨_, rfl⟩
  case bts x =>
    simp only [opE, act] at he
    repeat' (split at he)
    all_goals first | (cases he; done) | skip
    all_goals
      rename_i hq
      repeat' (split at hq)
      all_goals first | (cases hq; done) | (cases hq; cases he; exact ⟨_, rfl⟩; done) | skip
      all_goals
        cases he
        simp only [Option.map_eq_some_iff] at hq
        obtain ⟨_, _, hq⟩ := hq
        cases hq
        exact ⟨_, rfl⟩
  all_goals first | (simp [IOp.cl] at h; done) | skip
  all_goals
    simp only [opE, act] at he
    repeat' (split at he)
    all_goals first | (cases he; done) | (cases he; exact ⟨_, rfl⟩; done) | skip
    all_goals
      rename_i hq
      repeat' (split at hq)
      all_goals first | (cases hq; done) | (cases hq; cases he; exact ⟨_, rfl⟩; done)

/-! ### Objects: fewer and more -/
def lkLe (lk lk' : Nat → Option Ob) : Prop := ∀ k o, lk k = some o → lk' k = some o

theorem lkLe.refl (lk : Nat → Option Ob) : lkLe lk lk := fun _ _ h => h
theorem lkLe.trans {a b c : Nat → Option Ob} (h : lkLe a b) (g : lkLe b c) : lkLe a c := fun k o hk => g k o (h k o hk)

section
variable {lk lk' : Nat → Option Ob}

theorem lkLe.isSome (hl : lkLe lk lk') {k : Nat} (h : (lk k).isSome = true) : lk' k = lk k := by
  obtain ⟨o, ho⟩ := Option.isSome_iff_exists.1 h
  rw [ho, hl k o ho]
mutual
theorem out_lv (hl : lkLe lk lk') : ∀ (d : D), d.lv lk = true → d.out lk' = d.out lk
  | .own _ _, _ | .elr _ _ _ _, _ | .int _ _, _ | .bool _, _ | .str _, _ | .nilp, _ | .nl _, _ | .fz _ _, _ | .ad _ _ _ _, _ | .any, _ | .wh _ _, _ | .ub, _ | .err _, _ | .xad _, _ | .vw _ _ _ _ _, _ | .sub _ _, _ | .sbx _, _ => by simp only [D.out]
  | .row k, h => by
    simp only [D.lv] at h
    simp only [D.out, lkLe.isSome hl h]
  | .agg cs, h => by simp only [D.lv] at h; simp only [D.out, outL_lv hl cs h]
  | .tup cs, h => by simp only [D.lv] at h; simp only [D.out, outL_lv hl cs h]
  | .clo f cs, h => by simp only [D.lv] at h; simp only [D.out, outL_lv hl cs h]
theorem outL_lv (hl : lkLe lk lk') : ∀ (ds : List D), lvL lk ds = true → outL lk' ds = outL lk ds
  | [], _ => by simp only [outL]
  | d :: ds, h => by
    simp only [lvL, Bool.and_eq_true] at h
    simp only [outL, out_lv hl d h.1, outL_lv hl ds h.2]
end
mutual
theorem lv_mono (hl : lkLe lk lk') : ∀ (d : D), d.lv lk = true → d.lv lk' = true
  | .int _ _, _ | .bool _, _ | .str _, _ | .nilp, _ | .nl _, _ | .fz _ _, _ | .ad _ _ _ _, _ | .any, _ | .wh _ _, _ | .ub, _ | .err _, _ | .xad _, _ | .sub _ _, _ | .sbx _, _ => by simp only [D.lv]
  | .row k, h | .own k _, h | .elr k _ _ _, h | .vw k _ _ _ _, h => by
    simp only [D.lv] at h ⊢
    rw [lkLe.isSome hl h]; exact h
  | .agg cs, h => by simp only [D.lv] at h ⊢; exact lvL_mono hl cs h
  | .tup cs, h => by simp only [D.lv] at h ⊢; exact lvL_mono hl cs h
  | .clo f cs, h => by simp only [D.lv] at h ⊢; exact lvL_mono hl cs h
theorem lvL_mono (hl : lkLe lk lk') : ∀ (ds : List D), lvL lk ds = true → lvL lk' ds = true
  | [], _ => by simp only [lvL]
  | d :: ds, h => by
    simp only [lvL, Bool.and_eq_true] at h ⊢
    exact ⟨lv_mono hl d h.1, lvL_mono hl ds h.2⟩
end
theorem newsOf_mono (hl : lkLe lk lk') {sz : Nat} {d : D} {ns : List (List D)} (h : newsOf sz lk d = some ns) : newsOf sz lk' d = some ns := by
  cases d <;> simp only [newsOf] at h ⊢ <;> try exact h
  case row k =>
    cases hk : lk k with
    | none => rw [hk] at h; cases h
    | some o => rw [hl k o hk]; rw [hk] at h; exact h
  case vw k sz lo n cp =>
    cases hk : lk k with
    | none => rw [hk] at h; cases h
    | some o => rw [hl k o hk]; rw [hk] at h; exact h
theorem newsOf_lv (hl : lkLe lk lk') {sz : Nat} {d : D} (h : d.lv lk = true) : newsOf sz lk' d = newsOf sz lk d := by
  cases d <;> simp only [newsOf]
  all_goals
    simp only [D.lv] at h
    rw [lkLe.isSome hl h]
end

theorem map_out_lv {T : Tb} {ev : Opd → D} {lk lk' : Nat → Option Ob} (hl : lkLe lk lk') {as : List Opd} (h : lvL lk (as.map fun x => (ev x).un) = true) : (as.map fun x => (ev x).un.out lk') = as.map fun x => (ev x).un.out lk := by
  have := outL_lv hl _ h
  rw [outL_map, outL_map, List.map_map, List.map_map] at this
  exact this

theorem act_slc_lk {T : Tb} {ev : Opd → D} {lk lk' : Nat → Option Ob} {n : Nat} {x : Opd} {lo hi : Option Opd} (h : ∀ k, ev x = .row k → lk' k = lk k) : act T (.slc n x lo hi) ev lk' = act T (.slc n x lo hi) ev lk := by
  simp only [act]
  generalize lo.map ev = L
  generalize hi.map ev = H
  generalize ev x = E at h
  cases E
  case row k =>
    have h1 := h k rfl
    rcases L with _ | L <;> rcases H with _ | H <;> first
      | rfl
      | (cases L <;> first | rfl | simp only [h1] | (cases H <;> rfl))
      | (cases H <;> rfl)
  all_goals first
    | rfl
    | (rcases L with _ | L <;> rcases H with _ | H <;> first
        | rfl
        | (cases L <;> first | rfl | (cases H <;> rfl))
        | (cases H <;> first | rfl | (rename_i q; rcases q with (_ | _) | _ <;> rfl)))
theorem act_slc_none {T : Tb} {ev : Opd → D} {lk : Nat → Option Ob} {n k : Nat} {x : Opd} {lo hi : Option Opd} (h : ev x = .row k) (hk : lk k = none) : act T (.slc n x lo hi) ev lk = none := by
  simp only [act, h, hk]
  generalize lo.map ev = L
  generalize hi.map ev = H
  rcases L with _ | L <;> rcases H with _ | H <;> first
    | rfl
    | (cases L <;> first | rfl | simp only [hk] | (cases H <;> rfl))
    | (cases H <;> rfl)

theorem opE_mono {T : Tb} {ev : Opd → D} {lk lk' : Nat → Option Ob} (hl : lkLe lk lk') {op : IOp} (h1 : op.cl ≠ .store) (h2 : op.cl ≠ .mv) {r : Prop × Eff} (hr : opE T ev lk op = some r) : opE T ev lk' op = some r := by
  cases op
  case append sz b x y =>
    simp only [IOp.cl] at h2
    split at h2
    · rename_i hx
      simp only [opE, act] at hr ⊢
      cases hn : newsOf sz lk (ev y).un with
      | none =>
        cases hd : (ev x).un <;> simp only [hd, hn] at hr <;> try (cases hr; done)
        case row k =>
          cases hy : (ev y).un <;> cases hk : lk k <;> simp only [hy, hk] at hr <;> try (cases hr; done)
          case row.some k2 o =>
            cases o <;> simp only at hr <;> try (cases hr; done)
            cases hk2 : lk k2 with
            | none => rw [hk2] at hr; cases hr
            | some o2 =>
              rw [hk2] at hr
              cases o2 <;> simp only at hr <;> try (cases hr; done)
              simp only [newsOf, hl k2 _ hk2, hl k _ hk]
              exact hr
          all_goals (rename_i o; cases o <;> simp only at hr <;> cases hr)
        case vw k sz lo n cp =>
          cases hy : (ev y).un <;> simp only [hy] at hr <;> try (cases hr; done)
          case vw k2 sz3 lo2 n2 cp2 =>
            cases hk2 : lk k2 with
            | none => rw [hk2] at hr; cases hr
            | some o2 =>
              rw [hk2] at hr
              cases o2 <;> simp only at hr <;> try (cases hr; done)
              simp only [newsOf, hl k2 _ hk2]
              exact hr
      | some ns =>
        rw [newsOf_mono hl hn]
        rw [hn] at hr
        cases hd : (ev x).un <;> simp only [hd] at hr ⊢ <;> try (exact hr)
        case row k =>
          cases hk : lk k with
          | none => rw [hk] at hr; cases hr
          | some o => rw [hl k o hk]; rw [hk] at hr; exact hr
        case vw k sz lo n cp =>
          cases hk : lk k with
          | none => rw [hk] at hr; cases hr
          | some o => rw [hl k o hk]; rw [hk] at hr; exact hr
    · exact absurd rfl h2
  case store n x v => exact absurd rfl h1
  case call f as =>
    simp only [opE] at hr ⊢
    cases hs : T.sp f with
    | none => rw [hs] at hr; cases hr
    | some sp =>
      rw [hs] at hr
      simp only at hr ⊢
      split at hr
      · rename_i hv
        rw [if_pos (lvL_mono hl _ hv), map_out_lv (T := T) hl hv]
        exact hr
      · cases hr
  case calln f as =>
    simp only [opE] at hr ⊢
    cases hs : T.sp f with
    | none => rw [hs] at hr; cases hr
    | some sp =>
      rw [hs] at hr
      simp only at hr ⊢
      cases hh : sp.hx with
      | none => rw [hh] at hr; cases hr
      | some hx =>
        rw [hh] at hr
        simp only at hr ⊢
        split at hr
        · rename_i hv
          rw [if_pos ⟨lvL_mono hl _ hv.1, hv.2⟩, map_out_lv (T := T) hl hv.1]
          exact hr
        · cases hr
  case load n ag x =>
    simp only [opE, act] at hr ⊢
    cases hd : (ev x).un <;> simp only [hd] at hr ⊢ <;> try (exact hr)
    case own k off =>
      cases hk : lk k with
      | none => rw [hk] at hr; cases hr
      | some o => rw [hl k o hk]; rw [hk] at hr; exact hr
    case elr k sz i off =>
      cases hk : lk k with
      | none => rw [hk] at hr; cases hr
      | some o => rw [hl k o hk]; rw [hk] at hr; exact hr
  case iaddr sz x i =>
    simp only [opE, act] at hr ⊢
    cases hd : (ev x).un <;> simp only [hd] at hr ⊢ <;> try (exact hr)
    case fz sz' es => cases hi : (ev i).un <;> simp only [hi] at hr ⊢ <;> exact hr
    case vw k sz' lo n cp => cases hi : (ev i).un <;> simp only [hi] at hr ⊢ <;> exact hr
    case row k =>
      cases hi : (ev i).un <;> simp only [hi] at hr ⊢ <;> try (exact hr)
      cases hk : lk k with
      | none => rw [hk] at hr; cases hr
      | some o => rw [hl k o hk]; rw [hk] at hr; exact hr
  case len x =>
    simp only [opE, act] at hr ⊢
    cases hd : (ev x).un <;> simp only [hd] at hr ⊢ <;> try (exact hr)
    case row k =>
      cases hk : lk k with
      | none => rw [hk] at hr; cases hr
      | some o => rw [hl k o hk]; rw [hk] at hr; exact hr
  case nileq neg x =>
    simp only [opE, act] at hr ⊢
    cases hd : (ev x).un <;> simp only [hd] at hr ⊢ <;> try (exact hr)
    case row k =>
      cases hk : lk k with
      | none => rw [hk] at hr; cases hr
      | some o => rw [hl k o hk]; rw [hk] at hr; exact hr
  case bts x =>
    simp only [opE, act] at hr ⊢
    cases hd : (ev x).un <;> simp only [hd] at hr ⊢ <;> try (exact hr)
    case row k =>
      cases hk : lk k with
      | none => rw [hk] at hr; cases hr
      | some o => rw [hl k o hk]; rw [hk] at hr; exact hr
  case slc n x lo hi =>
    have heq : act T (.slc n x lo hi) (fun x => (ev x).un) lk' = act T (.slc n x lo hi) (fun x => (ev x).un) lk := by
      refine act_slc_lk fun k hk => ?_
      cases hko : lk k with
      | none => have hz := act_slc_none (T := T) (ev := fun x => (ev x).un) (n := n) (lo := lo) (hi := hi) hk hko; simp only [opE, hz] at hr; cases hr
      | some o => exact hl k o hko
    simp only [opE] at hr ⊢
    rw [heq]
    exact hr
  case callx f as => exact absurd rfl h2
  case callc x as => exact absurd rfl h2
  case appz sz b z x n => exact absurd rfl h2
  case clr sz z x => exact absurd rfl h2
  case cpy sz x y => exact absurd rfl h2
  case ovl x y => exact absurd rfl h2
  all_goals exact hr

theorem opE_lv {T : Tb} {ev : Opd → D} {lk lk' : Nat → Option Ob} (hl : lkLe lk lk') {op : IOp} (h1 : op.cl ≠ .store) (h2 : op.cl ≠ .mv) (hv : ∀ x ∈ op.opds, (ev x).un.lv lk = true) : opE T ev lk' op = opE T ev lk op := by
  cases op
  case append sz b x y =>
    simp only [IOp.opds, List.mem_cons, List.mem_nil_iff, or_false, forall_eq_or_imp, forall_eq] at hv
    simp only [opE, act]
    rw [newsOf_lv hl hv.2]
    generalize newsOf sz lk (ev y).un = ns
    have hv1 := hv.1
    have hv2 := hv.2
    cases hd : (ev x).un <;> cases ns <;> try rfl
    all_goals
      rw [hd] at hv1
      simp only [D.lv] at hv1
      try simp only [lkLe.isSome hl hv1]
    all_goals
      cases hy : (ev y).un
      all_goals first
        | rfl
        | (rw [hy] at hv2; simp only [D.lv] at hv2; simp only [lkLe.isSome hl hv2]; done)
        | (rw [hy] at hv2; simp only [D.lv] at hv2; have e2 := lkLe.isSome hl hv2; rename_i k _ _; cases lk k with | none => rfl | some o => (cases o <;> first | rfl | simp only [e2]))
        | (rw [hy] at hv2; simp only [D.lv] at hv2; have e2 := lkLe.isSome hl hv2; generalize lk _ = q; cases q with | none => rfl | some o => (cases o <;> first | rfl | simp only [e2]))
        | (rename_i k _ _; cases lk k with | none => rfl | some o => cases o <;> rfl)
        | (rename_i k _; cases lk k with | none => rfl | some o => cases o <;> rfl)
        | (generalize lk _ = q; cases q with | none => rfl | some o => cases o <;> rfl)
  case store n x v => exact absurd rfl h1
  case call f as =>
    have hv' : lvL lk (as.map fun x => (ev x).un) = true := by
      simp only [IOp.opds] at hv
      clear h1 h2
      induction as with
      | nil => rfl
      | cons a as ih =>
        simp only [List.map_cons, lvL, Bool.and_eq_true]
        exact ⟨hv a (by simp), ih fun x hx => hv x (by simp [hx])⟩
    simp only [opE]
    rw [map_out_lv (T := T) hl hv', hv', lvL_mono hl _ hv']
  case calln f as =>
    have hv' : lvL lk (as.map fun x => (ev x).un) = true := by
      simp only [IOp.opds] at hv
      clear h1 h2
      induction as with
      | nil => rfl
      | cons a as ih =>
        simp only [List.map_cons, lvL, Bool.and_eq_true]
        exact ⟨hv a (by simp), ih fun x hx => hv x (by simp [hx])⟩
    simp only [opE]
    rw [map_out_lv (T := T) hl hv', hv', lvL_mono hl _ hv']
  case callc x as => exact absurd rfl h2
  case appz sz b z x n => exact absurd rfl h2
  case clr sz z x => exact absurd rfl h2
  case cpy sz x y => exact absurd rfl h2
  case ovl x y => exact absurd rfl h2
  case load n ag x =>
    simp only [IOp.opds, List.mem_cons, List.mem_nil_iff, or_false, forall_eq] at hv
    simp only [opE, act]
    cases hd : (ev x).un
    case own k off =>
      rw [hd] at hv
      simp only [D.lv] at hv
      simp only [lkLe.isSome hl hv]
    case elr k sz i off =>
      rw [hd] at hv
      simp only [D.lv] at hv
      simp only [lkLe.isSome hl hv]
    all_goals rfl
  case iaddr sz x i =>
    simp only [IOp.opds, List.mem_cons, List.mem_nil_iff, or_false, forall_eq_or_imp, forall_eq] at hv
    simp only [opE, act]
    have hv1 := hv.1
    cases hd : (ev x).un <;> cases hi : (ev i).un <;> try rfl
    rename_i k _ _
    rw [hd] at hv1
    simp only [D.lv] at hv1
    simp only [lkLe.isSome hl hv1]
  case slc n x lo hi =>
    have hv1 := hv x (by simp [IOp.opds])
    have heq : act T (.slc n x lo hi) (fun x => (ev x).un) lk' = act T (.slc n x lo hi) (fun x => (ev x).un) lk := by
      refine act_slc_lk fun k hk => ?_
      have hk : (ev x).un = .row k := hk
      rw [hk] at hv1
      simp only [D.lv] at hv1
      exact lkLe.isSome hl hv1
    simp only [opE]
    rw [heq]
  case callx f as => exact absurd rfl h2
  case bts x =>
    simp only [IOp.opds, List.mem_cons, List.mem_nil_iff, or_false, forall_eq] at hv
    simp only [opE, act]
    cases hd : (ev x).un
    case row k =>
      rw [hd] at hv
      simp only [D.lv] at hv
      simp only [lkLe.isSome hl hv]
    all_goals rfl
  case len x =>
    simp only [IOp.opds, List.mem_cons, List.mem_nil_iff, or_false, forall_eq] at hv
    simp only [opE, act]
    cases hd : (ev x).un
    case row k =>
      rw [hd] at hv
      simp only [D.lv] at hv
      simp only [lkLe.isSome hl hv]
    all_goals rfl
  case nileq neg x =>
    simp only [IOp.opds, List.mem_cons, List.mem_nil_iff, or_false, forall_eq] at hv
    simp only [opE, act]
    cases hd : (ev x).un
    case row k =>
      rw [hd] at hv
      simp only [D.lv] at hv
      simp only [lkLe.isSome hl hv]
    all_goals rfl
  all_goals rfl

theorem opE_new {T : Tb} {ev : Opd → D} {lk : Nat → Option Ob} {op : IOp} (h : op.cl = .new) {ψ : Prop} {e : Eff} (he : opE T ev lk op = some (ψ, e)) (hx : ∀ x, isNl x = true → ∃ z, ev x = .nl z) : (∃ o p, e = .new o p) ∨ (∃ o, e = .mv none o) ∨ ∃ ob d, e = .news ob d := by
  cases op
  case append sz b x y =>
    simp only [IOp.cl] at h
    split at h
    · rename_i hn
      obtain ⟨z, hz⟩ := hx x hn
      have hz' : (ev x).un = .nl z := by rw [hz]; rfl
      simp only [opE, act, hz'] at he
      cases hq : newsOf sz lk (ev y).un with
      | none => rw [hq] at he; cases he
      | some ns => rw [hq] at he; cases he; exact .inr (.inl ⟨_, rfl⟩)
    · cases h
  case calln f as =>
    simp only [opE] at he
    repeat' (split at he)
    all_goals first | (cases he; done) | (cases he; exact .inr (.inr ⟨_, _, rfl⟩))
  all_goals first | (cases h; done) | skip
  all_goals
    simp only [opE, act] at he
    repeat' (split at he)
    all_goals first | (cases he; done) | (cases he; exact .inl ⟨_, _, rfl⟩; done) | skip
    all_goals
      rename_i hq
      repeat' (split at hq)
      all_goals first | (cases hq; done) | (cases hq; cases he; exact .inl ⟨_, _, rfl⟩; done)

theorem opE_store {T : Tb} {ev : Opd → D} {lk : Nat → Option Ob} {op : IOp} (h : op.cl = .store) {ψ : Prop} {e : Eff} (he : opE T ev lk op = some (ψ, e)) : ∃ k o, e = .put k o := by
  cases op
  case append sz b x y => simp only [IOp.cl] at h; split at h <;> cases h
  all_goals first | (cases h; done) | skip
  simp only [opE, act] at he
  repeat' (split at he)
  all_goals first | (cases he; done) | skip
  all_goals
    rename_i hq
    repeat' (split at hq)
    all_goals first | (cases hq; done) | (cases hq; cases he; exact ⟨_, _, rfl⟩; done)

end Go.Vcg
