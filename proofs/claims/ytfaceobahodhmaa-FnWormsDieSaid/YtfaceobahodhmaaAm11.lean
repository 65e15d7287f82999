/- What an operation reads; pure operations; the trace of a region. -/
import Derived.Test.YtfaceobahodhmaaAm10
set_option maxHeartbeats 4000000
set_option maxRecDepth 100000
namespace Go.AM
set_option linter.unusedVariables false
set_option linter.unusedSimpArgs false
variable {P : Program} {N : Nat} {o : Oper} {t t' : Tm} {h : Heap}

theorem ev_congr {x : Opd} (hs : ∀ i ∈ opdSlots x, gt t' i = gt t i) : ev t' x = ev t x := by
  cases x with
  | tmp i => exact hs i (by simp [opdSlots])
  | val v => rfl
theorem evs_congr : ∀ {xs : List Opd}, (∀ i ∈ xs.flatMap opdSlots, gt t' i = gt t i) → evs t' xs = evs t xs
  | [], _ => rfl
  | x :: xs, hs => by
    simp only [evs]
    rw [ev_congr (x := x) (fun i hi => hs i (by simp [hi])), evs_congr (xs := xs) (fun i hi => hs i (by rw [List.flatMap_cons]; exact List.mem_append.2 (.inr hi)))]
theorem evo_congr {x : Option Opd} (hs : ∀ i ∈ opoSlots x, gt t' i = gt t i) : evo t' x = evo t x := by
  cases x with
  | none => rfl
  | some x => simp only [evo]; rw [ev_congr hs]
theorem evp_congr : ∀ {xs : List (Nat × Nat × Opd)}, (∀ i ∈ xs.flatMap (fun p => opdSlots p.2.2), gt t' i = gt t i) → evp t' xs = evp t xs
  | [], _ => rfl
  | (o, s, x) :: xs, hs => by
    simp only [evp]
    rw [ev_congr (x := x) (fun i hi => hs i (by simp [hi])), evp_congr (xs := xs) (fun i hi => hs i (by rw [List.flatMap_cons]; exact List.mem_append.2 (.inr hi)))]

theorem aop_congr (h : Heap) : ∀ (m : MOp), (∀ i ∈ m.slots, gt t' i = gt t i) → aop t' h m = aop t h m
  | .xt k xs, hs => by simp only [aop]; rw [evs_congr (t := t) hs]
  | .mv x, hs => by simp only [aop]; rw [ev_congr (t := t) hs]
  | .pick a b c, hs => by
    simp only [aop]
    rw [ev_congr (t := t) (x := a) (fun i hi => hs i (by simp [MOp.slots, hi])), ev_congr (t := t) (x := b) (fun i hi => hs i (by simp [MOp.slots, hi])), ev_congr (t := t) (x := c) (fun i hi => hs i (by simp [MOp.slots, hi]))]
  | .new zs, hs => rfl
  | .box x, hs => by simp only [aop]; rw [ev_congr (t := t) hs]
  | .build zs ps, hs => by simp only [aop]; rw [evp_congr (t := t) hs]
  | .bslice sz len zs ps, hs => by simp only [aop]; rw [evp_congr (t := t) hs]
  | .load n x, hs => by simp only [aop]; rw [ev_congr (t := t) hs]
  | .store n a b, hs => by
    simp only [aop]
    rw [ev_congr (t := t) (x := a) (fun i hi => hs i (by simp [MOp.slots, hi])), ev_congr (t := t) (x := b) (fun i hi => hs i (by simp [MOp.slots, hi]))]
  | .nilck x, hs => by simp only [aop]; rw [ev_congr (t := t) hs]
  | .bin op a b, hs => by
    simp only [aop]
    rw [ev_congr (t := t) (x := a) (fun i hi => hs i (by simp [MOp.slots, hi])), ev_congr (t := t) (x := b) (fun i hi => hs i (by simp [MOp.slots, hi]))]
  | .eqb n a b, hs => by
    simp only [aop]
    rw [ev_congr (t := t) (x := a) (fun i hi => hs i (by simp [MOp.slots, hi])), ev_congr (t := t) (x := b) (fun i hi => hs i (by simp [MOp.slots, hi]))]
  | .eqs n ks a b, hs => by
    simp only [aop]
    rw [ev_congr (t := t) (x := a) (fun i hi => hs i (by simp [MOp.slots, hi])), ev_congr (t := t) (x := b) (fun i hi => hs i (by simp [MOp.slots, hi]))]
  | .un op x, hs => by simp only [aop]; rw [ev_congr (t := t) hs]
  | .conv k x, hs => by simp only [aop]; rw [ev_congr (t := t) hs]
  | .s2b x, hs => by simp only [aop]; rw [ev_congr (t := t) hs]
  | .b2s x, hs => by simp only [aop]; rw [ev_congr (t := t) hs]
  | .faddr n x, hs => by simp only [aop]; rw [ev_congr (t := t) hs]
  | .part n k x, hs => by simp only [aop]; rw [ev_congr (t := t) hs]
  | .iaddr n a b, hs => by
    simp only [aop]
    rw [ev_congr (t := t) (x := a) (fun i hi => hs i (by simp [MOp.slots, hi])), ev_congr (t := t) (x := b) (fun i hi => hs i (by simp [MOp.slots, hi]))]
  | .istr a b, hs => by
    simp only [aop]
    rw [ev_congr (t := t) (x := a) (fun i hi => hs i (by simp [MOp.slots, hi])), ev_congr (t := t) (x := b) (fun i hi => hs i (by simp [MOp.slots, hi]))]
  | .slstr x lo hi, hs => by
    simp only [aop]
    rw [ev_congr (t := t) (x := x) (fun i h => hs i (by simp [MOp.slots, h])), evo_congr (t := t) (x := lo) (fun i h => hs i (by simp [MOp.slots, h])), evo_congr (t := t) (x := hi) (fun i h => hs i (by simp [MOp.slots, h]))]
  | .slsl sz x lo hi, hs => by
    simp only [aop]
    rw [ev_congr (t := t) (x := x) (fun i h => hs i (by simp [MOp.slots, h])), evo_congr (t := t) (x := lo) (fun i h => hs i (by simp [MOp.slots, h])), evo_congr (t := t) (x := hi) (fun i h => hs i (by simp [MOp.slots, h]))]
  | .mkslice sz bs zs a b, hs => by
    simp only [aop]
    rw [ev_congr (t := t) (x := a) (fun i hi => hs i (by simp [MOp.slots, hi])), ev_congr (t := t) (x := b) (fun i hi => hs i (by simp [MOp.slots, hi]))]
  | .ext x i, hs => by simp only [aop]; rw [ev_congr (t := t) hs]
  | .len x, hs => by simp only [aop]; rw [ev_congr (t := t) hs]
  | .lens x, hs => by simp only [aop]; rw [ev_congr (t := t) hs]
  | .cs x, hs => by simp only [aop]; rw [ev_congr (t := t) hs]
  | .app sz bs a b, hs => by
    simp only [aop]
    rw [ev_congr (t := t) (x := a) (fun i hi => hs i (by simp [MOp.slots, hi])), ev_congr (t := t) (x := b) (fun i hi => hs i (by simp [MOp.slots, hi]))]
  | .rng x, hs => by simp only [aop]; rw [ev_congr (t := t) hs]
  | .next x, hs => by simp only [aop]; rw [ev_congr (t := t) hs]
  | .fn f a b, hs => by
    simp only [aop]
    rw [evs_congr (t := t) (xs := a) (fun i hi => hs i (List.mem_append.2 (.inl hi))), evs_congr (t := t) (xs := b) (fun i hi => hs i (List.mem_append.2 (.inr hi)))]
  | .call f xs, hs => rfl
  | .callv f xs, hs => rfl

theorem aop_pure (h h2 : Heap) : ∀ (m : MOp) (r : Res), m.pure = true → aop t h m = some r → r = (r.1, h, h.length) ∧ aop t h2 m = some (r.1, h2, h2.length) := by
  intro m r hp hr
  cases m <;> first
    | (simp [MOp.pure] at hp; done)
    | skip
  all_goals
    simp only [aop, Option.bind_eq_some_iff] at hr ⊢
  case xt k xs => obtain ⟨vs, h1, v, h2, hr⟩ := hr; cases hr; exact ⟨rfl, vs, h1, v, h2, rfl⟩
  case mv x => obtain ⟨v, h1, hr⟩ := hr; cases hr; exact ⟨rfl, v, h1, rfl⟩
  case pick a b c =>
    obtain ⟨v, h1, u, h2, z, h3, hr⟩ := hr
    split at hr
    · cases hr; exact ⟨rfl, _, h1, _, h2, _, h3, rfl⟩
    · cases hr
  case build zs ps => obtain ⟨v, h1, u, h2, hr⟩ := hr; cases hr; exact ⟨rfl, v, h1, u, h2, rfl⟩
  case nilck x =>
    obtain ⟨v, h1, hr⟩ := hr
    split at hr
    · cases hr; exact ⟨rfl, _, h1, rfl⟩
    · cases hr; exact ⟨rfl, _, h1, rfl⟩
    · cases hr
  case bin op a b => obtain ⟨v, h1, u, h2, z, h3, hr⟩ := hr; cases hr; exact ⟨rfl, v, h1, u, h2, z, h3, rfl⟩
  case eqb n a b =>
    obtain ⟨v, h1, u, h2, hr⟩ := hr
    split at hr
    · cases hr; exact ⟨rfl, _, h1, _, h2, rfl⟩
    · cases hr
  case eqs n ks a b =>
    obtain ⟨v, h1, u, h2, hr⟩ := hr
    split at hr
    · simp only [Option.bind_eq_some_iff] at hr
      obtain ⟨z, h3, hr⟩ := hr
      cases hr
      refine ⟨rfl, _, h1, _, h2, ?_⟩
      simp [h3]
    · cases hr
  case un op x => obtain ⟨v, h1, u, h2, hr⟩ := hr; cases hr; exact ⟨rfl, v, h1, u, h2, rfl⟩
  case conv k x =>
    obtain ⟨v, h1, hr⟩ := hr
    split at hr
    · cases hr; exact ⟨rfl, _, h1, rfl⟩
    · cases hr
  case faddr n x =>
    obtain ⟨v, h1, hr⟩ := hr
    split at hr
    · cases hr; exact ⟨rfl, _, h1, rfl⟩
    · cases hr
  case part n k x =>
    obtain ⟨v, h1, hr⟩ := hr
    split at hr
    · cases k with
      | none =>
        simp only [Option.bind_eq_some_iff] at hr
        obtain ⟨u, h2, hr⟩ := hr
        cases hr
        refine ⟨rfl, _, h1, ?_⟩
        simp [h2]
      | some k => cases hr; exact ⟨rfl, _, h1, rfl⟩
    · cases hr
  case iaddr n a b =>
    obtain ⟨v, h1, u, h2, hr⟩ := hr
    split at hr
    · split at hr
      · rename_i h0; cases hr; refine ⟨rfl, _, h1, _, h2, ?_⟩; simp [h0]
      · cases hr
    · cases hr
  case istr a b =>
    obtain ⟨v, h1, u, h2, hr⟩ := hr
    split at hr
    · split at hr
      · rename_i h0
        simp only [Option.bind_eq_some_iff] at hr
        obtain ⟨z, h3, hr⟩ := hr
        cases hr
        refine ⟨rfl, _, h1, _, h2, ?_⟩
        simp only [if_pos h0, h3, Option.bind_some]
      · cases hr
    · cases hr
  case slstr x lo hi =>
    obtain ⟨v, h1, u, h2, z, h3, hr⟩ := hr
    split at hr
    · simp only [Option.bind_eq_some_iff] at hr
      obtain ⟨a, h4, b, h5, hr⟩ := hr
      cases hr
      refine ⟨rfl, _, h1, _, h2, _, h3, ?_⟩
      simp [h4, h5]
    · cases hr
  case slsl sz x lo hi =>
    obtain ⟨v, h1, u, h2, z, h3, hr⟩ := hr
    split at hr
    · split at hr
      · rename_i h0
        simp only [Option.bind_eq_some_iff] at hr
        obtain ⟨a, h4, b, h5, hr⟩ := hr
        cases hr
        refine ⟨rfl, _, h1, _, h2, _, h3, ?_⟩
        simp [h0, h4, h5]
      · cases hr
    · simp only [Option.bind_eq_some_iff] at hr
      obtain ⟨a, h4, b, h5, hr⟩ := hr
      cases hr
      refine ⟨rfl, _, h1, _, h2, _, h3, ?_⟩
      simp [h4, h5]
    · cases hr
  case ext x i =>
    obtain ⟨v, h1, hr⟩ := hr
    split at hr
    · simp only [Option.bind_eq_some_iff] at hr
      obtain ⟨u, h2, hr⟩ := hr
      cases hr
      refine ⟨rfl, _, h1, ?_⟩
      simp only [h2, Option.bind_some]
    · cases hr
  case len x =>
    obtain ⟨v, h1, hr⟩ := hr
    split at hr
    · cases hr; exact ⟨rfl, _, h1, rfl⟩
    · cases hr
  case lens x =>
    obtain ⟨v, h1, hr⟩ := hr
    split at hr
    · cases hr; exact ⟨rfl, _, h1, rfl⟩
    · cases hr
  case cs x =>
    obtain ⟨v, h1, hr⟩ := hr
    split at hr
    · cases hr; exact ⟨rfl, _, h1, rfl⟩
    · cases hr
  case fn f a b => obtain ⟨v, h1, u, h2, hr⟩ := hr; cases hr; exact ⟨rfl, v, h1, u, h2, rfl⟩

theorem aop_hext (h : Heap) (m : MOp) (r : Res) (hr : aop t h m = some r) : HExt h r.2.1 r.2.2 := by
  cases m
  all_goals
    simp only [aop, Option.bind_eq_some_iff] at hr
  all_goals
    repeat' first
      | (cases hr; first | exact HExt.refl _ _ | exact HExt.append _ _ _ | exact HExt.set _ _ _)
      | (cases hr; done)
      | (split at hr)
      | (simp only [Option.bind_eq_some_iff] at hr)
      | (obtain ⟨_, hr⟩ := hr)

def Loc (F : List Nat) (h h2 h' h2' : Heap) : Prop :=
  h2'.length = h'.length ∧ (∀ b, b < h.length → b ∉ F → h2'[b]? = h2[b]? ∧ h'[b]? = h[b]?) ∧ ∀ b, h.length ≤ b ∨ b ∈ F → h2'[b]? = h'[b]?

section
variable {F : List Nat} {h2 : Heap} (hl : h2.length = h.length) (hf : ∀ b ∈ F, h2[b]? = h[b]?)
include hl hf
theorem Loc.refl' : Loc F h h2 h h2 := ⟨hl, fun b _ _ => ⟨rfl, rfl⟩, fun b hb => by
  rcases hb with hb | hb
  · rw [List.getElem?_eq_none (by omega), List.getElem?_eq_none (by omega)]
  · exact hf b hb⟩
theorem Loc.append (l : Heap) : Loc F h h2 (h ++ l) (h2 ++ l) := ⟨by simp [hl], fun b hb _ => ⟨List.getElem?_append_left (by omega), List.getElem?_append_left hb⟩, fun b hb => by
  by_cases hlt : b < h.length
  · rw [List.getElem?_append_left (by omega), List.getElem?_append_left hlt]
    exact hf b (hb.resolve_left (by omega))
  · rw [List.getElem?_append_right (by omega), List.getElem?_append_right (by omega), hl]⟩
theorem Loc.set {c : Nat} (hc : c ∈ F) (o : AObj) : Loc F h h2 (h.set c o) (h2.set c o) := ⟨by simp [hl], fun b hb hn => ⟨List.getElem?_set_ne fun (e : c = b) => hn (e ▸ hc), List.getElem?_set_ne fun (e : c = b) => hn (e ▸ hc)⟩, fun b hb => by
  by_cases e : c = b
  · subst e
    by_cases hlt : c < h.length
    · simp [hlt, hl]
    · rw [List.getElem?_eq_none (by simp; omega), List.getElem?_eq_none (by simp; omega)]
  · rw [List.getElem?_set_ne e, List.getElem?_set_ne e]
    rcases hb with hb | hb
    · rw [List.getElem?_eq_none (by omega), List.getElem?_eq_none (by omega)]
    · exact hf b hb⟩
end

theorem look_local {h2 : Heap} {a : Addr} (hb : h2[a.block]? = h[a.block]?) : look h2 a = look h a := by unfold look; rw [hb]

theorem aop_local (h h2 : Heap) (hl : h2.length = h.length) : ∀ (m : MOp) (r : Res), m.isCall = false → aop t h m = some r → (∀ b ∈ foot t m, h2[b]? = h[b]?) →
    ∃ h2', aop t h2 m = some (r.1, h2', r.2.2) ∧ Loc (foot t m) h h2 r.2.1 h2' := by
  intro m r hm hr hf
  by_cases hp : m.pure = true
  · obtain ⟨h1, h3⟩ := aop_pure h h2 m r hp hr
    refine ⟨h2, ?_, ?_⟩
    · rw [h3, show r.2.2 = h.length from by rw [h1], hl]
    · rw [show r.2.1 = h from by rw [h1]]
      exact Loc.refl' hl hf
  cases m <;> first
    | (exact absurd rfl hp)
    | (cases hm; done)
    | skip
  all_goals
    simp only [aop, Option.bind_eq_some_iff] at hr ⊢
  case new zs => cases hr; exact ⟨h2 ++ _, by rw [hl], Loc.append hl hf _⟩
  case box x =>
    obtain ⟨v, h1, hr⟩ := hr
    split at hr
    · rename_i hc; cases hr
      exact ⟨h2 ++ _, ⟨_, h1, by rw [if_pos hc, hl]⟩, Loc.append hl hf _⟩
    · cases hr
  case bslice sz len zs ps =>
    obtain ⟨v, h1, u, h3, hr⟩ := hr
    split at hr
    · cases hr
    · rename_i hc; cases hr
      exact ⟨h2 ++ _, ⟨_, h1, _, h3, by rw [if_neg hc, hl]⟩, Loc.append hl hf _⟩
  case load n x =>
    obtain ⟨v, h1, hr⟩ := hr
    split at hr
    · rename_i a
      have hb : h2[a.block]? = h[a.block]? := hf _ (by simp [foot, MOp.addrs, h1, blkOf])
      refine ⟨h2, ⟨_, h1, ?_⟩, ?_⟩
      · simp only [look_local hb]
        simp only [Option.bind_eq_some_iff] at hr ⊢
        obtain ⟨⟨us, rw⟩, k1, hr⟩ := hr
        refine ⟨_, k1, ?_⟩
        cases n with
        | none =>
          simp only [Option.bind_eq_some_iff] at hr ⊢
          obtain ⟨u, k2, hr⟩ := hr
          cases hr
          exact ⟨_, k2, by rw [hl]⟩
        | some n =>
          simp only at hr ⊢
          split at hr
          · rename_i hc; cases hr; rw [if_pos hc, hl]
          · cases hr
      · simp only [Option.bind_eq_some_iff] at hr
        obtain ⟨⟨us, rw⟩, k1, hr⟩ := hr
        cases n with
        | none =>
          simp only [Option.bind_eq_some_iff] at hr
          obtain ⟨u, k2, hr⟩ := hr
          cases hr
          exact Loc.refl' hl hf
        | some n =>
          simp only at hr
          split at hr
          · cases hr; exact Loc.refl' hl hf
          · cases hr
    · cases hr
  case store n x y =>
    obtain ⟨v, h1, u, h3, hr⟩ := hr
    split at hr
    · rename_i a
      have hm : a.block ∈ foot t (.store n x y) := by simp [foot, MOp.addrs, h1, blkOf]
      have hb := hf _ hm
      simp only [Option.bind_eq_some_iff] at hr
      obtain ⟨⟨us, rw⟩, k1, hr⟩ := hr
      simp only at hr
      split at hr
      · rename_i hc
        cases hr
        refine ⟨h2.set a.block _, ⟨_, h1, _, h3, ?_⟩, Loc.set hl hf hm _⟩
        simp only [look_local hb, k1, Option.bind_some, if_pos hc]
      · cases hr
    · cases hr
  case s2b x =>
    obtain ⟨v, h1, hr⟩ := hr
    split at hr
    · cases hr; exact ⟨h2 ++ _, ⟨_, h1, by rw [hl]⟩, Loc.append hl hf _⟩
    · cases hr
  case b2s x =>
    obtain ⟨v, h1, hr⟩ := hr
    split at hr
    · cases hr; exact ⟨h2, ⟨_, h1, by rw [hl]; rfl⟩, Loc.refl' hl hf⟩
    · rename_i a n c
      have hb : h2[a.block]? = h[a.block]? := hf _ (by simp [foot, MOp.addrs, h1, blkOf])
      simp only [Option.bind_eq_some_iff] at hr
      obtain ⟨⟨us, rw⟩, k1, hr⟩ := hr
      simp only at hr
      split at hr
      · rename_i hc
        simp only [Option.bind_eq_some_iff] at hr
        obtain ⟨l, k2, hr⟩ := hr
        cases hr
        refine ⟨h2, ⟨_, h1, ?_⟩, Loc.refl' hl hf⟩
        simp only [look_local hb, k1, Option.bind_some, if_pos hc, k2, hl]
      · cases hr
    · cases hr
  case mkslice sz bs zs n c =>
    obtain ⟨v, h1, u, h3, hr⟩ := hr
    split at hr
    · split at hr
      · rename_i hc
        cases hr
        exact ⟨h2 ++ _, ⟨_, h1, _, h3, by simp only [if_pos hc, hl]⟩, Loc.append hl hf _⟩
      · cases hr
    · cases hr
  case app sz bs x y =>
    obtain ⟨v, h1, u, h3, ⟨m, new⟩, k1, hr⟩ := hr
    have hap : appArg h2 sz u = appArg h sz u := by
      unfold appArg
      split
      · rfl
      · rename_i a n c
        have hb : h2[a.block]? = h[a.block]? := hf _ (by simp only [foot, MOp.addrs, List.mem_filterMap]; exact ⟨y, by simp, by rw [h3]; rfl⟩)
        rw [look_local hb]
      · rfl
      · rfl
    rw [← hap] at k1
    simp only at hr
    split at hr
    · split at hr
      · rename_i hc; cases hr
        exact ⟨h2, ⟨_, h1, _, h3, _, k1, by simp only [if_pos hc, hl]⟩, Loc.refl' hl hf⟩
      · split at hr
        · rename_i hc hd; cases hr
          exact ⟨h2 ++ _, ⟨_, h1, _, h3, _, k1, by simp only [if_neg hc, if_pos hd, hl]⟩, Loc.append hl hf _⟩
        · cases hr
    · rename_i a n c
      have hm : a.block ∈ foot t (.app sz bs x y) := by simp only [foot, MOp.addrs, List.mem_filterMap]; exact ⟨x, by simp, by rw [h1]; rfl⟩
      have hb := hf _ hm
      simp only [Option.bind_eq_some_iff] at hr
      obtain ⟨⟨us, rw⟩, k2, hr⟩ := hr
      simp only at hr
      split at hr
      · rename_i hc
        split at hr
        · rename_i hd; cases hr
          refine ⟨h2, ⟨_, h1, _, h3, _, k1, ?_⟩, Loc.refl' hl hf⟩
          simp only [look_local hb, k2, Option.bind_some, if_pos hc, if_pos hd, hl]
        · rename_i hd; cases hr
          refine ⟨h2.set a.block _, ⟨_, h1, _, h3, _, k1, ?_⟩, Loc.set hl hf hm _⟩
          simp only [look_local hb, k2, Option.bind_some, if_pos hc, if_neg hd]
      · cases hr
    · cases hr
  case rng x =>
    obtain ⟨v, h1, hr⟩ := hr
    split at hr
    · cases hr; exact ⟨h2 ++ _, ⟨_, h1, by rw [hl]⟩, Loc.append hl hf _⟩
    · cases hr
  case next x =>
    obtain ⟨v, h1, hr⟩ := hr
    split at hr
    · rename_i b
      have hm : b ∈ foot t (.next x) := by simp [foot, MOp.addrs, h1, blkOf]
      have hb := hf _ hm
      split at hr
      · rename_i s pos hi
        split at hr
        · rename_i hc; cases hr
          refine ⟨h2.set b _, ⟨_, h1, ?_⟩, Loc.set hl hf hm _⟩
          simp only [hb, hi, if_pos hc]
        · rename_i hc; cases hr
          refine ⟨h2, ⟨_, h1, ?_⟩, Loc.refl' hl hf⟩
          simp only [hb, hi, if_neg hc, hl]
      · cases hr
    · cases hr

def DoSim (P : Program) (X : Ext) (m : MOp) (t : Tm) (h : Heap) (r : Res) : Prop :=
  (∀ (N : Nat) (o : Oper) (t' : Tm), cOp P X o = some m → (∀ i ∈ m.slots, gt t' i = gt t i) → OpSim P N o t' h r) ∧
  (m.pure = true → r = (r.1, h, h.length) ∧ ∀ (N : Nat) (o : Oper) (t' : Tm) (h2 : Heap), cOp P X o = some m → (∀ i ∈ m.slots, gt t' i = gt t i) → OpSim P N o t' h2 (r.1, h2, h2.length)) ∧
  HExt h r.2.1 r.2.2 ∧
  (m.isCall = false → ∀ h2 : Heap, h2.length = h.length → (∀ b ∈ foot t m, h2[b]? = h[b]?) → ∃ h2', Loc (foot t m) h h2 r.2.1 h2' ∧ HExt h2 h2' r.2.2 ∧
    ∀ (N : Nat) (o : Oper) (t' : Tm), cOp P X o = some m → (∀ i ∈ m.slots, gt t' i = gt t i) → OpSim P N o t' h2 (r.1, h2', r.2.2)) ∧
  (m.isRd = true → r.2.1 = h)

theorem aop_rd (h : Heap) (m : MOp) (r : Res) (hm : m.isRd = true) (hr : aop t h m = some r) : r.2.1 = h := by
  cases m <;> first
    | (cases hm; done)
    | skip
  all_goals
    simp only [aop, Option.bind_eq_some_iff] at hr
  all_goals
    repeat' first
      | (cases hr; rfl)
      | (cases hr; done)
      | (split at hr)
      | (simp only [Option.bind_eq_some_iff] at hr)
      | (obtain ⟨_, hr⟩ := hr)

theorem DoSim.of_aop {X : Ext} (hX : ExtOK P X) {m : MOp} {r : Res} (hm : m.isCall = false) (hr : aop t h m = some r) : DoSim P X m t h r :=
  ⟨fun N o t' hc hs => sim_aop hX hc ((aop_congr h m hs).trans hr),
   fun hp => ⟨(aop_pure h h m r hp hr).1, fun N o t' h2 hc hs => sim_aop hX hc ((aop_congr h2 m hs).trans (aop_pure h h2 m r hp hr).2)⟩,
   aop_hext h m r hr,
   fun _ h2 hl hf => by
    obtain ⟨h2', k1, k2⟩ := aop_local h h2 hl m r hm hr hf
    exact ⟨h2', k2, aop_hext h2 m _ k1, fun N o t' hc hs => sim_aop hX hc ((aop_congr h2 m hs).trans k1)⟩,
   fun hm => aop_rd h m r hm hr⟩

end Go.AM
