/- What a region that draws its order needs: parts of heaps, and what a step in a part does to the whole. -/
import Derived.Test.YtfaceobahodhmaaAm14
set_option linter.unusedSimpArgs false
set_option maxHeartbeats 4000000
set_option maxRecDepth 100000
namespace Go.AM
set_option linter.unusedVariables false
variable {P : Program} {X : Ext} {N : Nat}

def cut (ρ : Rho) (L : Nat) : Rho := fun b g => if b < L then ρ b g else none

theorem cut_some {ρ : Rho} {L b : Nat} {g : Option Nat} {x : Nat × Nat × Nat} : cut ρ L b g = some x ↔ b < L ∧ ρ b g = some x := by
  unfold cut; split <;> simp [*]

theorem cut_mono {ρ ρ' : Rho} (h : Sub ρ ρ') {L L' : Nat} (hl : L ≤ L') : Sub (cut ρ L) (cut ρ' L') := fun b g x hx => by
  rw [cut_some] at hx ⊢; exact ⟨by omega, h b g x hx.2⟩

theorem cut_sub {ρ : Rho} {L : Nat} : Sub (cut ρ L) ρ := fun b g x hx => (cut_some.1 hx).2

theorem cut_self {ρ : Rho} {h : Heap} (hd : Dom ρ h) {L : Nat} (hl : h.length ≤ L) : cut ρ L = ρ := by
  funext b g
  unfold cut
  split
  · rfl
  · rename_i hb
    cases hx : ρ b g with
    | none => rfl
    | some x => have := hd.lt hx; omega

theorem CellsOK.mono {ρ ρ' : Rho} (hs : Sub ρ ρ') {w : World} {c d s : Nat} {vs : List Value} {rw : Bool} (h : CellsOK ρ w c d s vs rw) : CellsOK ρ' w c d s vs rw := by
  obtain ⟨arr, e, fr, h1, h2, h3, h4, h5⟩ := h
  exact ⟨arr, e, fr, h1, h2, h3, fun i v hi => let ⟨a, v', b, c⟩ := h4 i v hi; ⟨a, v', b, c.mono hs⟩, h5⟩

theorem Dom.take {ρ : Rho} {h h2 : Heap} (hd : Dom ρ h) {A : Nat} (hdum : ∀ b, b < A → ∀ o, h[b]? = some o → ∃ o2, h2[b]? = some o2 ∧ (o2.gen = o.gen ∨ o2.gen = nextg o.gen)) : Dom (cut ρ A) h2 := fun b g x hx => by
  obtain ⟨hb, hx⟩ := cut_some.1 hx
  obtain ⟨o, ho, hg⟩ := hd b g x hx
  obtain ⟨o2, h1, h2 | h2⟩ := hdum b hb o ho
  · exact ⟨o2, h1, by rw [h2]; exact hg⟩
  · exact ⟨o2, h1, by rw [h2]; exact hg.next⟩

theorem VRel.both {ρ ρ' : Rho} {K : Nat} {v v1 : Value} (h1 : VRel (cut ρ K) v v1) : ∀ {v2 : Value}, VRel ρ' v v2 → VRel (cut ρ' K) v v2 := by
  induction h1 with
  | bool b => intro v2 h2; cases h2; exact .bool b
  | int k n => intro v2 h2; cases h2; exact .int k n
  | str s => intro v2 h2; cases h2; exact .str s
  | ptr0 => intro v2 h2; cases h2; exact .ptr0
  | ptr h => intro v2 h2; cases h2 with | ptr h' => exact .ptr (cut_some.2 ⟨(cut_some.1 h).1, h'⟩)
  | sl0 a => intro v2 h2; cases h2; exact .sl0 _
  | sl h hn hc =>
    intro v2 h2
    cases h2 with
    | sl h' hn' hc' => exact .sl (cut_some.2 ⟨(cut_some.1 h).1, h'⟩) hn' hc'
    | slE a h' => exact .slE a (cut_some.2 ⟨(cut_some.1 h).1, h'⟩)
  | slE a h =>
    intro v2 h2
    cases h2 with
    | sl h' hn' hc' => exact .sl (cut_some.2 ⟨(cut_some.1 h).1, h'⟩) hn' hc'
    | slE a h' => exact .slE a (cut_some.2 ⟨(cut_some.1 h).1, h'⟩)
  | map0 => intro v2 h2; cases h2; exact .map0
  | nilf => intro v2 h2; cases h2; exact .nilf
  | nili => intro v2 h2; cases h2; exact .nili
  | func f a1 _ a3 _ i1 i2 =>
    intro v2 h2
    cases h2 with
    | func _ b1 b2 b3 b4 =>
      refine .func f b1 (fun i x y hx hy => ?_) b3 (fun i x y hx hy => ?_)
      · have hlt := (Array.getElem?_eq_some_iff.1 hx).1
        exact i1 i x _ hx (Array.getElem?_eq_getElem (by omega)) (b2 i x y hx hy)
      · have hlt := (Array.getElem?_eq_some_iff.1 hx).1
        exact i2 i x _ hx (Array.getElem?_eq_getElem (by omega)) (b4 i x y hx hy)
  | agg a1 _ i1 =>
    intro v2 h2
    cases h2 with
    | agg b1 b2 =>
      refine .agg b1 (fun i x y hx hy => ?_)
      have hlt := (Array.getElem?_eq_some_iff.1 hx).1
      exact i1 i x _ hx (Array.getElem?_eq_getElem (by omega)) (b2 i x y hx hy)
  | tuple a1 _ i1 =>
    intro v2 h2
    cases h2 with
    | tuple b1 b2 =>
      refine .tuple b1 (fun i x y hx hy => ?_)
      have hlt := (Array.getElem?_eq_some_iff.1 hx).1
      exact i1 i x _ hx (Array.getElem?_eq_getElem (by omega)) (b2 i x y hx hy)

theorem CellsOK.both {ρ ρ' : Rho} {K : Nat} {w w' : World} {c d s : Nat} {vs : List Value} {rw : Bool} (h1 : CellsOK (cut ρ K) w c d s vs rw) (h2 : CellsOK ρ' w' c d s vs rw) : CellsOK (cut ρ' K) w' c d s vs rw := by
  obtain ⟨arr, e, fr, a1, a2, a3, a4, a5⟩ := h1
  obtain ⟨arr', e', fr', b1, b2, b3, b4, b5⟩ := h2
  refine ⟨arr', e', fr', b1, b2, b3, fun i v hi => ?_, b5⟩
  obtain ⟨p1, v1, p2, p3⟩ := a4 i v hi
  obtain ⟨q1, v2, q2, q3⟩ := b4 i v hi
  exact ⟨q1, v2, q2, p3.both q3⟩

structure Part (ρ : Rho) (A : Nat) (K : Nat → Prop) (h h2 : Heap) : Prop where
  len : h2.length = A
  le : A ≤ h.length
  keep : ∀ b, b < A → K b → h2[b]? = h[b]?
  blank : ∀ b, b < A → ¬ K b → ∃ o, h[b]? = some o ∧ h2[b]? = some (.cells [] (nextg o.gen) false)

theorem Part.dom {ρ : Rho} {A : Nat} {K : Nat → Prop} {h h2 : Heap} (p : Part ρ A K h h2) (hd : Dom ρ h) : Dom (cut ρ A) h2 := by
  refine hd.take fun b hb o ho => ?_
  by_cases hk : K b
  · exact ⟨o, (p.keep b hb hk).trans ho, .inl rfl⟩
  · obtain ⟨o', h1, h2⟩ := p.blank b hb hk
    rw [ho] at h1; cases h1
    exact ⟨_, h2, .inr rfl⟩

theorem Part.curr {ρ : Rho} {A : Nat} {K : Nat → Prop} {h h2 : Heap} (p : Part ρ A K h h2) (hd : Dom ρ h) {b : Nat} {g : Option Nat} {rw : Bool} {x : Nat × Nat × Nat} (hb : b < A) (hr : ρ b g = some x) (hc : curr h2 b g rw) :
    K b ∧ curr h b g rw := by
  by_cases hk : K b
  · refine ⟨hk, ?_⟩
    unfold AM.curr at hc ⊢
    rw [p.keep b hb hk] at hc
    exact hc
  · exfalso
    obtain ⟨o, h1, h2⟩ := p.blank b hb hk
    obtain ⟨o', k1, k2⟩ := hd b g x hr
    rw [h1] at k1; cases k1
    rcases hc with ⟨vs, hv⟩ | ⟨_, _, s, q, hv⟩
    · rw [h2] at hv; cases hv; exact absurd rfl k2.ne_next
    · rw [h2] at hv; cases hv

theorem Part.blankF {ρ : Rho} {A : Nat} {K : Nat → Prop} {h h2 : Heap} (p : Part ρ A K h h2) {b : Nat} {g : Option Nat} (hb : b < A) (hk : ¬ K b) : ¬ AM.curr h2 b g true := fun hc => by
  obtain ⟨o, h1, h2⟩ := p.blank b hb hk
  rcases hc with ⟨vs, hv⟩ | ⟨_, _, s, q, hv⟩
  · rw [h2] at hv; cases hv
  · rw [h2] at hv; cases hv

theorem Part.rel {ρ : Rho} {A : Nat} {K : Nat → Prop} {h h2 : Heap} {w : World} (p : Part ρ A K h h2) (hd : Dom ρ h) (hw : WRel ρ h w)
    (hc : ∀ b g c d s vs rw, b < A → K b → ρ b g = some (c, d, s) → h[b]? = some (.cells vs g rw) → CellsOK (cut ρ A) w c d s vs rw) : WRel (cut ρ A) h2 w where
  cells := fun b g c d s vs rw hr hb => by
    obtain ⟨hlt, hr⟩ := cut_some.1 hr
    obtain ⟨hk, _⟩ := p.curr hd hlt hr (.inl ⟨vs, hb⟩)
    rw [p.keep b hlt hk] at hb
    exact hc b g c d s vs rw hlt hk hr hb
  iter := fun b c d s str pos hr hb => by
    obtain ⟨hlt, hr⟩ := cut_some.1 hr
    obtain ⟨hk, _⟩ := p.curr hd hlt hr (.inr ⟨rfl, rfl, str, pos, hb⟩)
    rw [p.keep b hlt hk] at hb
    exact hw.iter b c d s str pos hr hb
  lt := fun b g c d s hr => hw.lt b g c d s (cut_some.1 hr).2
  inj := fun b g b' g' c d s d' s' rw rw' hr hr' hne k k' => by
    obtain ⟨hb, hr⟩ := cut_some.1 hr
    obtain ⟨hb', hr'⟩ := cut_some.1 hr'
    exact hw.inj b g b' g' c d s d' s' rw rw' hr hr' hne (p.curr hd hb hr k).2 (p.curr hd hb' hr' k').2

structure Step (ρ : Rho) (A B : Nat) (K : Nat → Prop) (h h2 h2' h1 : Heap) (w w' : World) (ρ' : Rho) (l : Nat) : Prop where
  part : Part ρ A K h h2
  dom : Dom ρ h
  rel : WRel ρ h w
  ab : A ≤ B
  bn : B ≤ h.length
  len2 : h2'.length = B
  len1 : h1.length = h.length
  free : ∀ b g, A ≤ b → b < B → ρ b g = none
  new : ∀ b, b < B → (A ≤ b ∨ K b) → h1[b]? = h2'[b]?
  old : ∀ b, (B ≤ b ∨ (b < A ∧ ¬ K b)) → h1[b]? = h[b]?
  p : Post (cut ρ A) h2 w ρ' h2' w' l

def join (ρ ρ' : Rho) (B : Nat) : Rho := fun b g => if b < B then ρ' b g else ρ b g

variable {ρ ρ' : Rho} {A B : Nat} {K : Nat → Prop} {h h2 h2' h1 : Heap} {w w' : World} {l : Nat}

theorem Step.subR (S : Step ρ A B K h h2 h2' h1 w w' ρ' l) : Sub ρ' (join ρ ρ' B) := fun b g x hx => by
  have := S.p.dom.lt hx
  have := S.len2
  unfold join; rw [if_pos (by omega)]; exact hx

theorem Step.subL (S : Step ρ A B K h h2 h2' h1 w w' ρ' l) : Sub ρ (join ρ ρ' B) := fun b g x hx => by
  unfold join
  split
  · by_cases hb : b < A
    · exact S.p.sub b g x (cut_some.2 ⟨hb, hx⟩)
    · rw [S.free b g (by omega) (by assumption)] at hx; cases hx
  · exact hx

theorem Step.same (S : Step ρ A B K h h2 h2' h1 w w' ρ' l) {b : Nat} {g : Option Nat} (hb : B ≤ b ∨ (b < A ∧ ¬ K b)) : join ρ ρ' B b g = ρ b g := by
  have := S.ab
  unfold join
  split
  · obtain ⟨hlt, hk⟩ := hb.resolve_left (by omega)
    cases hx : ρ' b g with
    | none =>
      cases hy : ρ b g with
      | none => rfl
      | some y => rw [S.p.sub b g y (cut_some.2 ⟨hlt, hy⟩)] at hx; cases hx
    | some x =>
      rcases S.p.wrt b g x (by rw [S.part.len]; exact hlt) hx with h1 | ⟨g', x', _, h2⟩
      · exact ((cut_some.1 h1).2).symm
      · exact absurd h2 (S.part.blankF hlt hk)
  · rfl

theorem Step.stay (S : Step ρ A B K h h2 h2' h1 w w' ρ' l) {b c d s : Nat} {g : Option Nat} {rw : Bool} (hr : ρ b g = some (c, d, s)) (hc : curr h b g rw) (hb : A ≤ b ∨ ¬ K b ∨ b < l) : w'.heap[c]? = w.heap[c]? := by
  refine S.p.frame c (S.rel.lt b g c d s hr) ?_
  rintro ⟨b0, g0, d0, s0, hl, hr0, hc0⟩
  obtain ⟨hb0, hr0⟩ := cut_some.1 hr0
  obtain ⟨hk, hc0⟩ := S.part.curr S.dom hb0 hr0 hc0
  have hne : b0 ≠ b := fun e => by
    subst e
    rcases hb with h | h | h
    · omega
    · exact h hk
    · omega
  have := (S.rel.inj b0 g0 b g c d0 s0 d s true rw hr0 hr hne hc0 hc).1
  cases this

theorem Step.domJ (S : Step ρ A B K h h2 h2' h1 w w' ρ' l) : Dom (join ρ ρ' B) h1 := fun b g x hx => by
  by_cases hb : B ≤ b ∨ (b < A ∧ ¬ K b)
  · rw [S.same hb] at hx
    rw [S.old b hb]
    exact S.dom b g x hx
  · have hlt : b < B := by omega
    have hk : A ≤ b ∨ K b := by
      by_cases hA : A ≤ b
      · exact .inl hA
      · exact .inr (Classical.byContradiction fun hk => hb (.inr ⟨by omega, hk⟩))
    unfold join at hx
    rw [if_pos hlt] at hx
    rw [S.new b hlt hk]
    exact S.p.dom b g x hx

theorem Step.cases (S : Step ρ A B K h h2 h2' h1 w w' ρ' l) (b : Nat) : (B ≤ b ∨ (b < A ∧ ¬ K b)) ∨ (b < B ∧ (A ≤ b ∨ K b)) := by
  by_cases hb : B ≤ b
  · exact .inl (.inl hb)
  · by_cases hA : A ≤ b
    · exact .inr ⟨by omega, .inl hA⟩
    · by_cases hk : K b
      · exact .inr ⟨by omega, .inr hk⟩
      · exact .inl (.inr ⟨by omega, hk⟩)

theorem Step.join_lt {b : Nat} {g : Option Nat} (hb : b < B) : join ρ ρ' B b g = ρ' b g := by unfold join; rw [if_pos hb]

theorem Step.currN (S : Step ρ A B K h h2 h2' h1 w w' ρ' l) {b : Nat} {g : Option Nat} {rw : Bool} (hb : b < B) (hk : A ≤ b ∨ K b) : curr h1 b g rw ↔ curr h2' b g rw := by unfold curr; rw [S.new b hb hk]
theorem Step.currO (S : Step ρ A B K h h2 h2' h1 w w' ρ' l) {b : Nat} {g : Option Nat} {rw : Bool} (hb : B ≤ b ∨ (b < A ∧ ¬ K b)) : curr h1 b g rw ↔ curr h b g rw := by unfold curr; rw [S.old b hb]

theorem Step.ownN (S : Step ρ A B K h h2 h2' h1 w w' ρ' l) {b c d s : Nat} {g : Option Nat} {rw : Bool} (hb : b < B) (hk : A ≤ b ∨ K b) (hc : c < w.heap.size) (hr : join ρ ρ' B b g = some (c, d, s)) (hk' : curr h1 b g rw) :
    ∃ g' d' s', ρ b g' = some (c, d', s') ∧ curr h b g' rw := by
  rw [Step.join_lt hb] at hr
  obtain ⟨g', d', s', k1, k2⟩ := S.p.own b g c d s rw hc hr ((S.currN hb hk).1 hk')
  obtain ⟨hlt, k1⟩ := cut_some.1 k1
  exact ⟨g', d', s', k1, (S.part.curr S.dom hlt k1 k2).2⟩

theorem Step.relJ (S : Step ρ A B K h h2 h2' h1 w w' ρ' l) : WRel (join ρ ρ' B) h1 w' where
  cells := fun b g c d s vs rw hr hb => by
    rcases S.cases b with ho | ⟨hlt, hk⟩
    · rw [S.same ho] at hr
      rw [S.old b ho] at hb
      have hA : A ≤ b ∨ ¬ K b ∨ b < l := by
        have := S.ab
        rcases ho with h | h
        · exact .inl (by omega)
        · exact .inr (.inl h.2)
      exact ((S.rel.cells b g c d s vs rw hr hb).same (S.stay hr (.inl ⟨vs, hb⟩) hA)).mono S.subL
    · rw [Step.join_lt hlt] at hr
      rw [S.new b hlt hk] at hb
      exact (S.p.rel.cells b g c d s vs rw hr hb).mono S.subR
  iter := fun b c d s str pos hr hb => by
    rcases S.cases b with ho | ⟨hlt, hk⟩
    · rw [S.same ho] at hr
      rw [S.old b ho] at hb
      have hA : A ≤ b ∨ ¬ K b ∨ b < l := by
        have := S.ab
        rcases ho with h | h
        · exact .inl (by omega)
        · exact .inr (.inl h.2)
      rw [S.stay hr (rw := true) (.inr ⟨rfl, rfl, str, pos, hb⟩) hA]
      exact S.rel.iter b c d s str pos hr hb
    · rw [Step.join_lt hlt] at hr
      rw [S.new b hlt hk] at hb
      exact S.p.rel.iter b c d s str pos hr hb
  lt := fun b g c d s hr => by
    rcases S.cases b with ho | ⟨hlt, hk⟩
    · rw [S.same ho] at hr; exact Nat.lt_of_lt_of_le (S.rel.lt b g c d s hr) S.p.size
    · rw [Step.join_lt hlt] at hr; exact S.p.rel.lt b g c d s hr
  inj := fun b g b' g' c d s d' s' rw rw' hr hr' hne k k' => by
    rcases S.cases b with ho | ⟨hlt, hk⟩
    · have hr0 := hr
      rw [S.same ho] at hr0
      have hc := S.rel.lt b g c d s hr0
      rcases S.cases b' with ho' | ⟨hlt', hk'⟩
      · rw [S.same ho'] at hr'
        exact S.rel.inj b g b' g' c d s d' s' rw rw' hr0 hr' hne ((S.currO ho).1 k) ((S.currO ho').1 k')
      · obtain ⟨g1, d1, s1, k1, k2⟩ := S.ownN hlt' hk' hc hr' k'
        exact S.rel.inj b g b' g1 c d s d1 s1 rw rw' hr0 k1 hne ((S.currO ho).1 k) k2
    · rcases S.cases b' with ho' | ⟨hlt', hk'⟩
      · rw [S.same ho'] at hr'
        have hc := S.rel.lt b' g' c d' s' hr'
        obtain ⟨g1, d1, s1, k1, k2⟩ := S.ownN hlt hk hc hr k
        exact S.rel.inj b g1 b' g' c d1 s1 d' s' rw rw' k1 hr' hne k2 ((S.currO ho').1 k')
      · rw [Step.join_lt hlt] at hr
        rw [Step.join_lt hlt'] at hr'
        exact S.p.rel.inj b g b' g' c d s d' s' rw rw' hr hr' hne ((S.currN hlt hk).1 k) ((S.currN hlt' hk').1 k')

theorem Step.post {ρ0 : Rho} {h0 : Heap} {w0 : World} {low : Nat} (hw0 : WRel ρ0 h0 w0) (S : Step ρ A B K h h2 h2' h1 w w' ρ' l) (q : Post ρ0 h0 w0 ρ h w low) (hlow : low ≤ l) (h0A : h0.length ≤ A) : Post ρ0 h0 w0 (join ρ ρ' B) h1 w' low where
  sub := q.sub.trans S.subL
  dom := S.domJ
  rel := S.relJ
  os := S.p.os.trans q.os
  tape := S.p.tape.trans q.tape
  output := S.p.output.trans q.output
  size := Nat.le_trans q.size S.p.size
  frame := fun c hc hn => by
    rw [S.p.frame c (Nat.lt_of_lt_of_le hc q.size) ?_]
    · exact q.frame c hc hn
    · rintro ⟨b0, g0, d0, s0, hl, hr0, hc0⟩
      obtain ⟨hb0, hr0⟩ := cut_some.1 hr0
      obtain ⟨hk, hc0⟩ := S.part.curr S.dom hb0 hr0 hc0
      obtain ⟨g', d', s', k1, k2⟩ := q.own b0 g0 c d0 s0 true hc hr0 hc0
      exact hn ⟨b0, g', d', s', by omega, k1, k2⟩
  len := by rw [S.len1]; exact q.len
  low := fun b hb hl => by
    rw [← q.low b hb hl]
    rcases S.cases b with ho | ⟨hlt, hk⟩
    · exact S.old b ho
    · rw [S.new b hlt hk, S.p.low b (by rw [S.part.len]; omega) (by omega)]
      exact S.part.keep b (by omega) (hk.resolve_left (by omega))
  wrt := fun b g x hb hx => by
    rcases S.cases b with ho | ⟨hlt, hk⟩
    · rw [S.same ho] at hx; exact q.wrt b g x hb hx
    · rw [Step.join_lt hlt] at hx
      have hbA : b < A := by omega
      rcases S.p.wrt b g x (by rw [S.part.len]; exact hbA) hx with k | ⟨g', ⟨c, d, s⟩, k1, k2⟩
      · exact q.wrt b g x hb (cut_some.1 k).2
      · obtain ⟨_, k1⟩ := cut_some.1 k1
        have k3 := (S.part.curr S.dom hbA k1 k2).2
        rcases q.wrt b g' _ hb k1 with m | m
        · have hc : c < w0.heap.size := hw0.lt b g' c d s m
          obtain ⟨g2, d2, s2, n1, n2⟩ := q.own b g' c d s true hc k1 k3
          exact .inr ⟨g2, _, n1, n2⟩
        · exact .inr m
  own := fun b g c d s rw hc hr hk => by
    rcases S.cases b with ho | ⟨hlt, hk'⟩
    · rw [S.same ho] at hr; exact q.own b g c d s rw hc hr ((S.currO ho).1 hk)
    · obtain ⟨g', d', s', k1, k2⟩ := S.ownN hlt hk' (Nat.lt_of_lt_of_le hc q.size) hr hk
      exact q.own b g' c d' s' rw hc k1 k2
  fresh := fun b g x hb hx hlt0 => by
    rcases S.cases b with ho | ⟨hlt, hk⟩
    · rw [S.same ho] at hx; exact q.fresh b g x hb hx hlt0
    · rw [Step.join_lt hlt] at hx
      have hbA : b < A := by omega
      exact q.fresh b g x hb (cut_some.1 (S.p.fresh b g x (by omega) hx (by rw [S.part.len]; exact hbA))).2 hlt0

end Go.AM
