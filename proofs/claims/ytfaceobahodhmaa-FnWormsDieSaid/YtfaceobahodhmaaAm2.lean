/- The relation between abstract and concrete states, and its laws. -/
import Derived.Test.YtfaceobahodhmaaAm1
set_option linter.unusedVariables false
set_option linter.unusedSimpArgs false
set_option maxHeartbeats 4000000
set_option maxRecDepth 100000
namespace Go.AM

abbrev Rho := Nat → Option Nat → Option (Nat × Nat × Nat)

inductive VRel (ρ : Rho) : Value → Value → Prop where
  | bool (b : Bool) : VRel ρ (.bool b) (.bool b)
  | int (k : IntKind) (n : Int) : VRel ρ (.int k n) (.int k n)
  | str (s : ByteArray) : VRel ρ (.string s) (.string s)
  | ptr0 : VRel ρ (.pointer none) (.pointer none)
  | ptr {b o : Nat} {g : Option Nat} {c d s : Nat} (h : ρ b g = some (c, d, s)) : VRel ρ (.pointer (some ⟨b, o, g⟩)) (.pointer (some ⟨c, d + o, none⟩))
  | sl0 (a : Option Addr) : VRel ρ (.slice none 0 0) (.slice a 0 0)
  | sl {b o : Nat} {g : Option Nat} {c d s n sz cap : Nat} (h : ρ b g = some (c, d, s)) (hn : n ≤ cap) (hc : d + o + cap * sz ≤ s) :
      VRel ρ (.slice (some ⟨b, o, g⟩) n sz) (.slice (some ⟨c, d + o, none⟩) n cap)
  | slE {b o : Nat} {g : Option Nat} {x : Nat × Nat × Nat} {sz : Nat} (a : Option Addr) (h : ρ b g = some x) :
      VRel ρ (.slice (some ⟨b, o, g⟩) 0 sz) (.slice a 0 0)
  | map0 : VRel ρ (.map none) (.map none)
  | nilf : VRel ρ .nilFunc .nilFunc
  | nili : VRel ρ .nilIface .nilIface
  | func (f : Fn) {fs fs' cs cs' : Array Value} (h1 : fs.size = fs'.size) (h2 : ∀ (i : Nat) (x y : Value), fs[i]? = some x → fs'[i]? = some y → VRel ρ x y)
      (h3 : cs.size = cs'.size) (h4 : ∀ (i : Nat) (x y : Value), cs[i]? = some x → cs'[i]? = some y → VRel ρ x y) : VRel ρ (.func f fs cs) (.func f fs' cs')
  | agg {xs ys : Array Value} (h1 : xs.size = ys.size) (h2 : ∀ (i : Nat) (x y : Value), xs[i]? = some x → ys[i]? = some y → VRel ρ x y) : VRel ρ (.agg xs) (.agg ys)
  | tuple {xs ys : Array Value} (h1 : xs.size = ys.size) (h2 : ∀ (i : Nat) (x y : Value), xs[i]? = some x → ys[i]? = some y → VRel ρ x y) : VRel ρ (.tuple xs) (.tuple ys)

def Sub (ρ ρ' : Rho) : Prop := ∀ b g x, ρ b g = some x → ρ' b g = some x

theorem Sub.refl (ρ : Rho) : Sub ρ ρ := fun _ _ _ h => h
theorem Sub.trans {ρ ρ' ρ'' : Rho} (h : Sub ρ ρ') (k : Sub ρ' ρ'') : Sub ρ ρ'' := fun b g x hx => k b g x (h b g x hx)

theorem VRel.mono {ρ ρ' : Rho} (hs : Sub ρ ρ') {v w : Value} (h : VRel ρ v w) : VRel ρ' v w := by
  induction h with
  | bool b => exact .bool b
  | int k n => exact .int k n
  | str s => exact .str s
  | ptr0 => exact .ptr0
  | ptr h => exact .ptr (hs _ _ _ h)
  | sl0 a => exact .sl0 a
  | sl h hn hc => exact .sl (hs _ _ _ h) hn hc
  | slE a h => exact .slE a (hs _ _ _ h)
  | map0 => exact .map0
  | nilf => exact .nilf
  | nili => exact .nili
  | func f h1 _ h3 _ i1 i2 => exact .func f h1 i1 h3 i2
  | agg h1 _ i1 => exact .agg h1 i1
  | tuple h1 _ i1 => exact .tuple h1 i1

def VRelL (ρ : Rho) (xs ys : List Value) : Prop := xs.length = ys.length ∧ ∀ (i : Nat) (x y : Value), xs[i]? = some x → ys[i]? = some y → VRel ρ x y

theorem VRelL.nil {ρ : Rho} : VRelL ρ [] [] := ⟨rfl, fun i x y h => by simp at h⟩
theorem VRelL.cons {ρ : Rho} {x y : Value} {xs ys : List Value} (h : VRel ρ x y) (k : VRelL ρ xs ys) : VRelL ρ (x :: xs) (y :: ys) :=
  ⟨by simp [k.1], fun i a b ha hb => by
    cases i with
    | zero => simp at ha hb; subst ha; subst hb; exact h
    | succ i => exact k.2 i a b (by simpa using ha) (by simpa using hb)⟩
theorem VRelL.cons_inv {ρ : Rho} {x : Value} {xs zs : List Value} (h : VRelL ρ (x :: xs) zs) : ∃ y ys, zs = y :: ys ∧ VRel ρ x y ∧ VRelL ρ xs ys := by
  cases zs with
  | nil => have := h.1; simp at this
  | cons y ys =>
    refine ⟨y, ys, rfl, h.2 0 x y (by simp) (by simp), by have := h.1; simpa using this, fun i a b ha hb => h.2 (i + 1) a b (by simpa using ha) (by simpa using hb)⟩
theorem VRelL.nil_inv {ρ : Rho} {zs : List Value} (h : VRelL ρ [] zs) : zs = [] := by
  cases zs with
  | nil => rfl
  | cons y ys => have := h.1; simp at this
theorem VRelL.append {ρ : Rho} {xs ys xs' ys' : List Value} (h : VRelL ρ xs ys) (k : VRelL ρ xs' ys') : VRelL ρ (xs ++ xs') (ys ++ ys') := by
  induction xs generalizing ys with
  | nil => rw [h.nil_inv]; exact k
  | cons x xs ih => obtain ⟨y, zs, rfl, h1, h2⟩ := h.cons_inv; exact .cons h1 (ih h2)
theorem VRelL.take {ρ : Rho} {xs ys : List Value} (h : VRelL ρ xs ys) (n : Nat) : VRelL ρ (xs.take n) (ys.take n) :=
  ⟨by simp [h.1], fun i x y hx hy => by
    rw [List.getElem?_take] at hx hy
    split at hx
    · rename_i hi; rw [if_pos hi] at hy; exact h.2 i x y hx hy
    · simp at hx⟩
theorem VRelL.drop {ρ : Rho} {xs ys : List Value} (h : VRelL ρ xs ys) (n : Nat) : VRelL ρ (xs.drop n) (ys.drop n) :=
  ⟨by simp [h.1], fun i x y hx hy => h.2 (n + i) x y (by simpa using hx) (by simpa using hy)⟩
theorem VRelL.mono {ρ ρ' : Rho} (hs : Sub ρ ρ') {xs ys : List Value} (h : VRelL ρ xs ys) : VRelL ρ' xs ys := ⟨h.1, fun i x y hx hy => (h.2 i x y hx hy).mono hs⟩
theorem VRelL.get {ρ : Rho} {xs ys : List Value} (h : VRelL ρ xs ys) {i : Nat} {x : Value} (hx : xs[i]? = some x) : ∃ y, ys[i]? = some y ∧ VRel ρ x y := by
  have hi : i < xs.length := (List.getElem?_eq_some_iff.1 hx).1
  have hy : ys[i]? = some (ys[i]'(by rw [← h.1]; exact hi)) := List.getElem?_eq_getElem _
  exact ⟨_, hy, h.2 i _ _ hx hy⟩
theorem VRelL.ofArr {ρ : Rho} {xs ys : Array Value} (h1 : xs.size = ys.size) (h2 : ∀ (i : Nat) (x y : Value), xs[i]? = some x → ys[i]? = some y → VRel ρ x y) : VRelL ρ xs.toList ys.toList :=
  ⟨by simpa using h1, fun i x y hx hy => h2 i x y (by simpa using hx) (by simpa using hy)⟩
theorem VRelL.agg {ρ : Rho} {xs ys : List Value} (h : VRelL ρ xs ys) : VRel ρ (.agg xs.toArray) (.agg ys.toArray) :=
  .agg (by simpa using h.1) (fun i x y hx hy => h.2 i x y (by simpa using hx) (by simpa using hy))
theorem VRelL.tuple {ρ : Rho} {xs ys : List Value} (h : VRelL ρ xs ys) : VRel ρ (.tuple xs.toArray) (.tuple ys.toArray) :=
  .tuple (by simpa using h.1) (fun i x y hx hy => h.2 i x y (by simpa using hx) (by simpa using hy))

theorem VRel.flat0_rfl {v : Value} (h : flat0 v = true) (ρ : Rho) : VRel ρ v v := by
  cases v with
  | bool b => exact .bool b
  | int k n => exact .int k n
  | string s => exact .str s
  | nilFunc => exact .nilf
  | nilIface => exact .nili
  | pointer a => cases a with
    | none => exact .ptr0
    | some a => simp [flat0] at h
  | map a => cases a with
    | none => exact .map0
    | some a => simp [flat0] at h
  | slice a n c => cases a with
    | none => simp [flat0] at h; obtain ⟨rfl, rfl⟩ := h; exact .sl0 none
    | some a => simp [flat0] at h
  | _ => simp [flat0] at h

theorem VRelL.flat_rfl {l : List Value} (h : l.all flat0 = true) (ρ : Rho) : VRelL ρ l l :=
  ⟨rfl, fun i x y hx hy => by
    rw [hx] at hy; cases hy
    exact VRel.flat0_rfl (List.all_eq_true.1 h x (List.mem_of_getElem? hx)) ρ⟩

theorem memA {xs : Array Value} {i : Nat} {x : Value} (h : xs[i]? = some x) : x ∈ xs.toList := by
  rw [← Array.getElem?_toList] at h; exact List.mem_of_getElem? h

theorem VRel.flat0_any {ρ ρ' : Rho} {v w : Value} (hf : flat0 v = true) (h : VRel ρ v w) : VRel ρ' v w := by
  cases h <;> first
    | (simp [flat0] at hf; done)
    | constructor

theorem VRel.flat1_any {ρ ρ' : Rho} {v w : Value} (hf : flat1 v = true) (h : VRel ρ v w) : VRel ρ' v w := by
  have h0 := h
  cases h with
  | func f h1 h2 h3 h4 =>
    simp only [flat1, Bool.and_eq_true, List.all_eq_true] at hf
    exact .func f h1 (fun i x y hx hy => (h2 i x y hx hy).flat0_any (hf.1 x (memA hx)))
      h3 (fun i x y hx hy => (h4 i x y hx hy).flat0_any (hf.2 x (memA hx)))
  | agg h1 h2 =>
    simp only [flat1, List.all_eq_true] at hf
    exact .agg h1 (fun i x y hx hy => (h2 i x y hx hy).flat0_any (hf x (memA hx)))
  | _ => exact VRel.flat0_any (by simpa only [flat1] using hf) h0

theorem VRel.flat_any {ρ ρ' : Rho} {v w : Value} (hf : flat v = true) (h : VRel ρ v w) : VRel ρ' v w := by
  have h0 := h
  cases h with
  | tuple h1 h2 =>
    simp only [flat, List.all_eq_true] at hf
    exact .tuple h1 (fun i x y hx hy => (h2 i x y hx hy).flat1_any (hf x (memA hx)))
  | _ => exact VRel.flat1_any (by simpa only [flat] using hf) h0

def CellsOK (ρ : Rho) (w : World) (c d s : Nat) (vs : List Value) (rw : Bool) : Prop :=
  ∃ arr e fr, w.heap[c]? = some (.cells arr e fr) ∧ arr.size = s ∧ d + vs.length ≤ s ∧
    (∀ (i : Nat) (v : Value), vs[i]? = some v → isCell v = true ∧ ∃ v', arr[d + i]? = some v' ∧ VRel ρ v v') ∧ (rw = true → ∀ i, i < s → ¬ (fr.1 ≤ i ∧ i < fr.2))

def curr (h : Heap) (b : Nat) (g : Option Nat) (rw : Bool) : Prop :=
  (∃ vs, h[b]? = some (.cells vs g rw)) ∨ (rw = true ∧ g = none ∧ ∃ s p, h[b]? = some (.iter s p))

structure WRel (ρ : Rho) (h : Heap) (w : World) : Prop where
  cells : ∀ b g c d s vs rw, ρ b g = some (c, d, s) → h[b]? = some (.cells vs g rw) → CellsOK ρ w c d s vs rw
  iter : ∀ b c d s str pos, ρ b none = some (c, d, s) → h[b]? = some (.iter str pos) → w.heap[c]? = some (.stringIter str pos) ∧ d = 0
  lt : ∀ b g c d s, ρ b g = some (c, d, s) → c < w.heap.size
  inj : ∀ b g b' g' c d s d' s' rw rw', ρ b g = some (c, d, s) → ρ b' g' = some (c, d', s') → b ≠ b' → curr h b g rw → curr h b' g' rw' → rw = false ∧ rw' = false

def _root_.Go.AM.AObj.gen : AObj → Option Nat
  | .cells _ g _ => g
  | .iter _ _ => none

def gle : Option Nat → Option Nat → Prop
  | none, _ => True
  | some a, some b => a ≤ b
  | some _, none => False

theorem gle.rfl' (g : Option Nat) : gle g g := by cases g <;> simp [gle]
theorem gle.none' (g : Option Nat) : gle none g := by cases g <;> simp [gle]
theorem gle.next {g g' : Option Nat} (h : gle g g') : gle g (nextg g') := by
  cases g <;> cases g' <;> simp_all [gle, nextg]; omega
theorem gle.ne_next {g g' : Option Nat} (h : gle g g') : g ≠ nextg g' := by
  cases g <;> cases g' <;> simp_all [gle, nextg]; omega

def Dom (ρ : Rho) (h : Heap) : Prop := ∀ b g x, ρ b g = some x → ∃ o, h[b]? = some o ∧ gle g o.gen

theorem Dom.lt {ρ : Rho} {h : Heap} (hd : Dom ρ h) {b : Nat} {g : Option Nat} {x : Nat × Nat × Nat} (hr : ρ b g = some x) : b < h.length := by
  obtain ⟨o, ho, _⟩ := hd b g x hr
  exact (List.getElem?_eq_some_iff.1 ho).1

def Own (ρ : Rho) (h : Heap) (l c : Nat) : Prop := ∃ b g d s, l ≤ b ∧ ρ b g = some (c, d, s) ∧ curr h b g true

structure Post (ρ : Rho) (h : Heap) (w : World) (ρ' : Rho) (h' : Heap) (w' : World) (l : Nat) : Prop where
  sub : Sub ρ ρ'
  dom : Dom ρ' h'
  rel : WRel ρ' h' w'
  os : w'.os = w.os
  tape : w'.tape = w.tape
  output : w'.output = w.output
  size : w.heap.size ≤ w'.heap.size
  frame : ∀ c, c < w.heap.size → ¬ Own ρ h l c → w'.heap[c]? = w.heap[c]?
  len : h.length ≤ h'.length
  low : ∀ b, b < h.length → b < l → h'[b]? = h[b]?
  wrt : ∀ b g x, b < h.length → ρ' b g = some x → ρ b g = some x ∨ ∃ g' x', ρ b g' = some x' ∧ curr h b g' true
  own : ∀ b g c d s rw, c < w.heap.size → ρ' b g = some (c, d, s) → curr h' b g rw → ∃ g' d' s', ρ b g' = some (c, d', s') ∧ curr h b g' rw
  fresh : ∀ b g x, b < l → ρ' b g = some x → b < h.length → ρ b g = some x

theorem Post.touch {ρ ρ' : Rho} {h h' : Heap} {w w' : World} {l : Nat} (p : Post ρ h w ρ' h' w' l) {b : Nat} {g : Option Nat} {x : Nat × Nat × Nat} (hb : b < h.length) (hx : ρ' b g = some x) : ∃ g' x', ρ b g' = some x' := by
  rcases p.wrt b g x hb hx with h1 | ⟨g', x', h1, _⟩
  · exact ⟨_, _, h1⟩
  · exact ⟨_, _, h1⟩

theorem Post.refl {ρ : Rho} {h : Heap} {w : World} (hd : Dom ρ h) (hw : WRel ρ h w) (l : Nat) : Post ρ h w ρ h w l where
  sub := Sub.refl ρ
  dom := hd
  rel := hw
  os := rfl
  tape := rfl
  output := rfl
  size := Nat.le_refl _
  frame := fun _ _ _ => rfl
  len := Nat.le_refl _
  low := fun _ _ _ => rfl
  wrt := fun b g x _ hx => .inl hx
  own := fun b g c d s _ _ hx hc => ⟨g, d, s, hx, hc⟩
  fresh := fun _ _ _ _ hx _ => hx

theorem Post.trans {ρ ρ1 ρ2 : Rho} {h h1 h2 : Heap} {w w1 w2 : World} {l1 l2 : Nat} (hw : WRel ρ h w) (p : Post ρ h w ρ1 h1 w1 l1) (q : Post ρ1 h1 w1 ρ2 h2 w2 l2) : Post ρ h w ρ2 h2 w2 (min l1 l2) where
  sub := p.sub.trans q.sub
  dom := q.dom
  rel := q.rel
  os := q.os.trans p.os
  tape := q.tape.trans p.tape
  output := q.output.trans p.output
  size := Nat.le_trans p.size q.size
  frame := fun c hc hn => by
    rw [q.frame c (Nat.lt_of_lt_of_le hc p.size) ?_]
    · exact p.frame c hc fun ⟨b, g, d, s, hb, hr, hk⟩ => hn ⟨b, g, d, s, Nat.le_trans (Nat.min_le_left _ _) hb, hr, hk⟩
    · rintro ⟨b, g, d, s, hb, hr, hk⟩
      obtain ⟨g', d', s', h1, h2⟩ := p.own b g c d s true hc hr hk
      exact hn ⟨b, g', d', s', Nat.le_trans (Nat.min_le_right _ _) hb, h1, h2⟩
  len := Nat.le_trans p.len q.len
  low := fun b hb hl => by
    rw [q.low b (Nat.lt_of_lt_of_le hb p.len) (Nat.lt_of_lt_of_le hl (Nat.min_le_right _ _)), p.low b hb (Nat.lt_of_lt_of_le hl (Nat.min_le_left _ _))]
  wrt := fun b g x hb hx => by
    rcases q.wrt b g x (Nat.lt_of_lt_of_le hb p.len) hx with h1 | ⟨g', ⟨c, d, s⟩, h1, h2⟩
    · exact p.wrt b g x hb h1
    · rcases p.wrt b g' _ hb h1 with h3 | h3
      · obtain ⟨g'', d'', s'', k1, k2⟩ := p.own b g' c d s true (hw.lt b g' c d s h3) h1 h2
        exact .inr ⟨g'', _, k1, k2⟩
      · exact .inr h3
  own := fun b g c d s rw hc hr hk => by
    obtain ⟨g', d', s', h1, h2⟩ := q.own b g c d s rw (Nat.lt_of_lt_of_le hc p.size) hr hk
    exact p.own b g' c d' s' rw hc h1 h2
  fresh := fun b g x hb hr hl => p.fresh b g x (Nat.lt_of_lt_of_le hb (Nat.min_le_left _ _)) (q.fresh b g x (Nat.lt_of_lt_of_le hb (Nat.min_le_right _ _)) hr (Nat.lt_of_lt_of_le hl p.len)) hl

theorem Post.mono {ρ ρ' : Rho} {h h' : Heap} {w w' : World} {l l' : Nat} (p : Post ρ h w ρ' h' w' l) (hl : l' ≤ l) : Post ρ h w ρ' h' w' l' :=
  { p with
    frame := fun c hc hn => p.frame c hc fun ⟨b, g, d, s, hb, hr, hk⟩ => hn ⟨b, g, d, s, Nat.le_trans hl hb, hr, hk⟩
    low := fun b hb hx => p.low b hb (Nat.lt_of_lt_of_le hx hl)
    fresh := fun b g x hb => p.fresh b g x (Nat.lt_of_lt_of_le hb hl) }

theorem CellsOK.same {ρ : Rho} {w w' : World} {c d s : Nat} {vs : List Value} {rw : Bool} (h : CellsOK ρ w c d s vs rw) (hc : w'.heap[c]? = w.heap[c]?) : CellsOK ρ w' c d s vs rw := by
  obtain ⟨arr, e, fr, h1, h2⟩ := h
  exact ⟨arr, e, fr, hc.trans h1, h2⟩

theorem WRel.same {ρ : Rho} {h : Heap} {w w' : World} (hw : WRel ρ h w) (hs : w.heap.size ≤ w'.heap.size) (hc : ∀ c, c < w.heap.size → w'.heap[c]? = w.heap[c]?) : WRel ρ h w' where
  cells := fun b g c d s vs rw hr hb => (hw.cells b g c d s vs rw hr hb).same (hc c (hw.lt b g c d s hr))
  iter := fun b c d s str pos hr hb => by rw [hc c (hw.lt b none c d s hr)]; exact hw.iter b c d s str pos hr hb
  lt := fun b g c d s hr => Nat.lt_of_lt_of_le (hw.lt b g c d s hr) hs
  inj := hw.inj

theorem Post.gc {ρ ρ' : Rho} {h h' : Heap} {w w' : World} {l : Nat} (hd : Dom ρ h) (hw : WRel ρ h w) (p : Post ρ h w ρ' h' w' l) (hl : h.length ≤ l) : Post ρ h w ρ h w' h.length where
  sub := Sub.refl ρ
  dom := hd
  rel := hw.same p.size fun c hc => p.frame c hc fun ⟨b, g, d, s, hb, hr, _⟩ => by have := hd.lt hr; omega
  os := p.os
  tape := p.tape
  output := p.output
  size := p.size
  frame := fun c hc _ => p.frame c hc fun ⟨b, g, d, s, hb, hr, _⟩ => by have := hd.lt hr; omega
  len := Nat.le_refl _
  low := fun _ _ _ => rfl
  wrt := fun b g x _ hx => .inl hx
  own := fun b g c d s _ _ hx hc => ⟨g, d, s, hx, hc⟩
  fresh := fun _ _ _ _ hx _ => hx

theorem curr_append {h : Heap} {b : Nat} {g : Option Nat} {rw : Bool} {l : List AObj} (hb : b < h.length) : curr (h ++ l) b g rw ↔ curr h b g rw := by
  unfold curr
  rw [List.getElem?_append_left hb]

theorem Post.newCells {ρ : Rho} {h : Heap} {w w' : World} (hd : Dom ρ h) (hw : WRel ρ h w) {vs : List Value} {arr : Array Value} {e : TypeId} {fr : Nat × Nat}
    (hlen : vs.length ≤ arr.size) (hv : ∀ (i : Nat) (v : Value), vs[i]? = some v → isCell v = true ∧ ∃ v', arr[i]? = some v' ∧ VRel ρ v v') (hfr : ∀ i, i < arr.size → ¬ (fr.1 ≤ i ∧ i < fr.2))
    (hh : w'.heap = w.heap.push (.cells arr e fr)) (hos : w'.os = w.os) (htape : w'.tape = w.tape) (hout : w'.output = w.output) :
    ∃ ρ', Post ρ h w ρ' (h ++ [.cells vs none true]) w' h.length ∧ ρ' h.length none = some (w.heap.size, 0, arr.size) := by
  let ρ' : Rho := fun b g => if b = h.length ∧ g = none then some (w.heap.size, 0, arr.size) else ρ b g
  have hnew : ρ' h.length none = some (w.heap.size, 0, arr.size) := by simp [ρ']
  have hold : ∀ b g, b < h.length → ρ' b g = ρ b g := fun b g hb => by simp only [ρ']; rw [if_neg (by omega)]
  have hsub : Sub ρ ρ' := fun b g x hx => by rw [hold b g (hd.lt hx)]; exact hx
  have hcase : ∀ b g x, ρ' b g = some x → (b = h.length ∧ g = none ∧ x = (w.heap.size, 0, arr.size)) ∨ (b < h.length ∧ ρ b g = some x) := by
    intro b g x hx
    simp only [ρ'] at hx
    split at hx
    · rename_i hc; simp at hx; exact .inl ⟨hc.1, hc.2, hx.symm⟩
    · exact .inr ⟨hd.lt hx, hx⟩
  have hheap : ∀ c, c < w.heap.size → w'.heap[c]? = w.heap[c]? := fun c hc => by
    rw [hh, Array.getElem?_push]; rw [if_neg (by omega)]
  have hlast : w'.heap[w.heap.size]? = some (.cells arr e fr) := by rw [hh]; simp
  have hsize : w'.heap.size = w.heap.size + 1 := by rw [hh]; simp
  refine ⟨ρ', ⟨hsub, ?_, ⟨?_, ?_, ?_, ?_⟩, hos, htape, hout, by omega, fun c hc _ => hheap c hc, by simp, fun b hb _ => List.getElem?_append_left hb, ?_, ?_, ?_⟩, hnew⟩
  · intro b g x hx
    rcases hcase b g x hx with ⟨rfl, rfl, _⟩ | ⟨hb, hr⟩
    · exact ⟨.cells vs none true, by simp, gle.none' _⟩
    · obtain ⟨o, ho, hg⟩ := hd b g x hr
      exact ⟨o, by rw [List.getElem?_append_left hb]; exact ho, hg⟩
  · intro b g c d s us rw hr hb
    rcases hcase b g _ hr with ⟨rfl, rfl, hx⟩ | ⟨hlt, hr'⟩
    · simp only [Prod.mk.injEq] at hx
      obtain ⟨rfl, rfl, rfl⟩ := hx
      simp at hb
      obtain ⟨rfl, rfl⟩ := hb
      exact ⟨arr, e, fr, hlast, rfl, by omega, fun i v hi => by
        obtain ⟨hc0, v', h1, h2⟩ := hv i v hi
        exact ⟨hc0, v', by simpa using h1, h2.mono hsub⟩, fun _ => hfr⟩
    · rw [List.getElem?_append_left hlt] at hb
      obtain ⟨arr', e', fr', h1, h2, h3, h4, h5⟩ := hw.cells b g c d s us rw hr' hb
      exact ⟨arr', e', fr', (hheap c (hw.lt b g c d s hr')).trans h1, h2, h3, fun i v hi => let ⟨hc0, v', k1, k2⟩ := h4 i v hi; ⟨hc0, v', k1, k2.mono hsub⟩, h5⟩
  · intro b c d s str pos hr hb
    rcases hcase b none _ hr with ⟨rfl, _, hx⟩ | ⟨hlt, hr'⟩
    · simp at hb
    · rw [List.getElem?_append_left hlt] at hb
      rw [hheap c (hw.lt b none c d s hr')]
      exact hw.iter b c d s str pos hr' hb
  · intro b g c d s hr
    rcases hcase b g _ hr with ⟨_, _, hx⟩ | ⟨_, hr'⟩
    · simp only [Prod.mk.injEq] at hx; omega
    · have := hw.lt b g c d s hr'; omega
  · intro b g b' g' c d s d' s' rw rw' hr hr' hne hc hc'
    rcases hcase b g _ hr with ⟨rfl, rfl, hx⟩ | ⟨hlt, hr1⟩
    · simp only [Prod.mk.injEq] at hx
      rcases hcase b' g' _ hr' with ⟨rfl, rfl, hx'⟩ | ⟨hlt', hr2⟩
      · exact absurd rfl hne
      · have := hw.lt _ _ _ _ _ hr2; omega
    · rcases hcase b' g' _ hr' with ⟨rfl, rfl, hx'⟩ | ⟨hlt', hr2⟩
      · simp only [Prod.mk.injEq] at hx'
        have := hw.lt _ _ _ _ _ hr1; omega
      · exact hw.inj b g b' g' c d s d' s' rw rw' hr1 hr2 hne ((curr_append hlt).1 hc) ((curr_append hlt').1 hc')
  · intro b g x hb hx
    rcases hcase b g x hx with ⟨rfl, _, _⟩ | ⟨_, hr⟩
    · omega
    · exact .inl hr
  · intro b g c d s rw hc hr hk
    rcases hcase b g _ hr with ⟨_, _, hx⟩ | ⟨hlt, hr'⟩
    · simp only [Prod.mk.injEq] at hx; omega
    · exact ⟨g, d, s, hr', (curr_append hlt).1 hk⟩
  · intro b g x hb hx hlt
    rw [hold b g hlt] at hx; exact hx

theorem Post.newIter {ρ : Rho} {h : Heap} {w w' : World} (hd : Dom ρ h) (hw : WRel ρ h w) {str : ByteArray} {pos : Nat}
    (hh : w'.heap = w.heap.push (.stringIter str pos)) (hos : w'.os = w.os) (htape : w'.tape = w.tape) (hout : w'.output = w.output) :
    ∃ ρ', Post ρ h w ρ' (h ++ [.iter str pos]) w' h.length ∧ ρ' h.length none = some (w.heap.size, 0, 0) := by
  let ρ' : Rho := fun b g => if b = h.length ∧ g = none then some (w.heap.size, 0, 0) else ρ b g
  have hnew : ρ' h.length none = some (w.heap.size, 0, 0) := by simp [ρ']
  have hold : ∀ b g, b < h.length → ρ' b g = ρ b g := fun b g hb => by simp only [ρ']; rw [if_neg (by omega)]
  have hsub : Sub ρ ρ' := fun b g x hx => by rw [hold b g (hd.lt hx)]; exact hx
  have hcase : ∀ b g x, ρ' b g = some x → (b = h.length ∧ g = none ∧ x = (w.heap.size, 0, 0)) ∨ (b < h.length ∧ ρ b g = some x) := by
    intro b g x hx
    simp only [ρ'] at hx
    split at hx
    · rename_i hc; simp at hx; exact .inl ⟨hc.1, hc.2, hx.symm⟩
    · exact .inr ⟨hd.lt hx, hx⟩
  have hheap : ∀ c, c < w.heap.size → w'.heap[c]? = w.heap[c]? := fun c hc => by
    rw [hh, Array.getElem?_push]; rw [if_neg (by omega)]
  have hlast : w'.heap[w.heap.size]? = some (.stringIter str pos) := by rw [hh]; simp
  have hsize : w'.heap.size = w.heap.size + 1 := by rw [hh]; simp
  refine ⟨ρ', ⟨hsub, ?_, ⟨?_, ?_, ?_, ?_⟩, hos, htape, hout, by omega, fun c hc _ => hheap c hc, by simp, fun b hb _ => List.getElem?_append_left hb, ?_, ?_, ?_⟩, hnew⟩
  · intro b g x hx
    rcases hcase b g x hx with ⟨rfl, rfl, _⟩ | ⟨hb, hr⟩
    · exact ⟨.iter str pos, by simp, gle.none' _⟩
    · obtain ⟨o, ho, hg⟩ := hd b g x hr
      exact ⟨o, by rw [List.getElem?_append_left hb]; exact ho, hg⟩
  · intro b g c d s us rw hr hb
    rcases hcase b g _ hr with ⟨rfl, rfl, hx⟩ | ⟨hlt, hr'⟩
    · simp at hb
    · rw [List.getElem?_append_left hlt] at hb
      obtain ⟨arr', e', fr', h1, h2, h3, h4, h5⟩ := hw.cells b g c d s us rw hr' hb
      exact ⟨arr', e', fr', (hheap c (hw.lt b g c d s hr')).trans h1, h2, h3, fun i v hi => let ⟨hc0, v', k1, k2⟩ := h4 i v hi; ⟨hc0, v', k1, k2.mono hsub⟩, h5⟩
  · intro b c d s str' pos' hr hb
    rcases hcase b none _ hr with ⟨rfl, _, hx⟩ | ⟨hlt, hr'⟩
    · simp only [Prod.mk.injEq] at hx
      obtain ⟨rfl, rfl, rfl⟩ := hx
      simp at hb
      obtain ⟨rfl, rfl⟩ := hb
      exact ⟨hlast, rfl⟩
    · rw [List.getElem?_append_left hlt] at hb
      rw [hheap c (hw.lt b none c d s hr')]
      exact hw.iter b c d s str' pos' hr' hb
  · intro b g c d s hr
    rcases hcase b g _ hr with ⟨_, _, hx⟩ | ⟨_, hr'⟩
    · simp only [Prod.mk.injEq] at hx; omega
    · have := hw.lt b g c d s hr'; omega
  · intro b g b' g' c d s d' s' rw rw' hr hr' hne hc hc'
    rcases hcase b g _ hr with ⟨rfl, rfl, hx⟩ | ⟨hlt, hr1⟩
    · simp only [Prod.mk.injEq] at hx
      rcases hcase b' g' _ hr' with ⟨rfl, rfl, hx'⟩ | ⟨hlt', hr2⟩
      · exact absurd rfl hne
      · have := hw.lt _ _ _ _ _ hr2; omega
    · rcases hcase b' g' _ hr' with ⟨rfl, rfl, hx'⟩ | ⟨hlt', hr2⟩
      · simp only [Prod.mk.injEq] at hx'
        have := hw.lt _ _ _ _ _ hr1; omega
      · exact hw.inj b g b' g' c d s d' s' rw rw' hr1 hr2 hne ((curr_append hlt).1 hc) ((curr_append hlt').1 hc')
  · intro b g x hb hx
    rcases hcase b g x hx with ⟨rfl, _, _⟩ | ⟨_, hr⟩
    · omega
    · exact .inl hr
  · intro b g c d s rw hc hr hk
    rcases hcase b g _ hr with ⟨_, _, hx⟩ | ⟨hlt, hr'⟩
    · simp only [Prod.mk.injEq] at hx; omega
    · exact ⟨g, d, s, hr', (curr_append hlt).1 hk⟩
  · intro b g x hb hx hlt
    rw [hold b g hlt] at hx; exact hx

theorem curr_set_ne {h : Heap} {b b' : Nat} {g : Option Nat} {rw : Bool} {o : AObj} (hb : b' ≠ b) : curr (h.set b o) b' g rw ↔ curr h b' g rw := by
  unfold curr
  rw [List.getElem?_set_ne (Ne.symm hb)]

theorem Post.turn {ρ : Rho} {h : Heap} {w w' : World} (hd : Dom ρ h) (hw : WRel ρ h w) {b : Nat} {g g' : Option Nat} {c d s c' d' s' : Nat} {vs vs' : List Value}
    (hr : ρ b g = some (c, d, s)) (hb : h[b]? = some (.cells vs g true)) (hg : (g' = g ∧ c' = c ∧ d' = d ∧ s' = s) ∨ g' = nextg g) (hc' : c' = c ∨ c' = w.heap.size)
    (hsz : w.heap.size ≤ w'.heap.size) (hc'lt : c' < w'.heap.size) (hheap : ∀ k, k < w.heap.size → k ≠ c → w'.heap[k]? = w.heap[k]?)
    (hcells : ∀ ρ', Sub ρ ρ' → CellsOK ρ' w' c' d' s' vs' true) (hos : w'.os = w.os) (htape : w'.tape = w.tape) (hout : w'.output = w.output) :
    ∃ ρ', Post ρ h w ρ' (h.set b (.cells vs' g' true)) w' b ∧ ρ' b g' = some (c', d', s') := by
  have hblt : b < h.length := (List.getElem?_eq_some_iff.1 hb).1
  let ρ' : Rho := fun b1 g1 => if b1 = b ∧ g1 = g' then some (c', d', s') else ρ b1 g1
  have hnew : ρ' b g' = some (c', d', s') := by simp [ρ']
  have hnone : g' ≠ g → ρ b g' = none := fun hne => by
    cases hx : ρ b g' with
    | none => rfl
    | some x =>
      obtain ⟨o, ho, hle⟩ := hd b g' x hx
      rw [hb] at ho; cases ho
      rcases hg with ⟨h1, _⟩ | h1
      · exact absurd h1 hne
      · exact absurd h1 (gle.ne_next hle)
  have hcase : ∀ b1 g1 x, ρ' b1 g1 = some x → (b1 = b ∧ g1 = g' ∧ x = (c', d', s')) ∨ (¬ (b1 = b ∧ g1 = g') ∧ ρ b1 g1 = some x) := by
    intro b1 g1 x hx
    simp only [ρ'] at hx
    split at hx
    · rename_i hc; simp at hx; exact .inl ⟨hc.1, hc.2, hx.symm⟩
    · rename_i hc; exact .inr ⟨hc, hx⟩
  have hsub : Sub ρ ρ' := fun b1 g1 x hx => by
    simp only [ρ']
    split
    · rename_i hc
      obtain ⟨rfl, rfl⟩ := hc
      rcases hg with ⟨h1, rfl, rfl, rfl⟩ | h1
      · subst h1; rw [hr] at hx; exact hx
      · by_cases e : g1 = g
        · cases g <;> simp [nextg, e] at h1
        · rw [hnone e] at hx; cases hx
    · exact hx
  have hset : (h.set b (.cells vs' g' true))[b]? = some (.cells vs' g' true) := by simp [hblt]
  have hcurr : ∀ b1 g1 rw1, curr (h.set b (.cells vs' g' true)) b1 g1 rw1 → (b1 = b ∧ g1 = g' ∧ rw1 = true) ∨ (b1 ≠ b ∧ curr h b1 g1 rw1) := by
    intro b1 g1 rw1 hk
    by_cases e : b1 = b
    · subst e
      rcases hk with ⟨us, hus⟩ | ⟨_, _, st, p, hst⟩
      · rw [hset] at hus; cases hus; exact .inl ⟨rfl, rfl, rfl⟩
      · rw [hset] at hst; cases hst
    · exact .inr ⟨e, (curr_set_ne e).1 hk⟩
  have hcur : curr h b g true := .inl ⟨vs, hb⟩
  have hne_of : ∀ b1 g1 c1 d1 s1 rw1, b1 ≠ b → ρ b1 g1 = some (c1, d1, s1) → curr h b1 g1 rw1 → c1 ≠ c := by
    intro b1 g1 c1 d1 s1 rw1 hne h1 h2 e
    subst e
    have := (hw.inj b1 g1 b g c1 d1 s1 d s rw1 true h1 hr hne h2 hcur).2
    cases this
  refine ⟨ρ', ⟨hsub, ?_, ⟨?_, ?_, ?_, ?_⟩, hos, htape, hout, hsz, ?_, by simp, ?_, ?_, ?_, ?_⟩, hnew⟩
  · intro b1 g1 x hx
    rcases hcase b1 g1 x hx with ⟨rfl, rfl, _⟩ | ⟨hn, hr1⟩
    · exact ⟨_, hset, gle.rfl' _⟩
    · obtain ⟨o, ho, hle⟩ := hd b1 g1 x hr1
      by_cases e : b1 = b
      · subst e
        rw [hb] at ho; cases ho
        refine ⟨_, hset, ?_⟩
        rcases hg with ⟨h1, _⟩ | h1
        · subst h1; exact hle
        · subst h1; exact gle.next hle
      · exact ⟨o, by rw [List.getElem?_set_ne (Ne.symm e)]; exact ho, hle⟩
  · intro b1 g1 c1 d1 s1 us rw1 h1 h2
    by_cases e : b1 = b
    · subst e
      rw [hset] at h2; cases h2
      rw [hnew] at h1; cases h1
      exact hcells ρ' hsub
    · rcases hcase b1 g1 _ h1 with ⟨e', _, _⟩ | ⟨_, hr1⟩
      · exact absurd e' e
      · rw [List.getElem?_set_ne (Ne.symm e)] at h2
        obtain ⟨arr, et, fr, k1, k2, k3, k4, k5⟩ := hw.cells b1 g1 c1 d1 s1 us rw1 hr1 h2
        exact ⟨arr, et, fr, (hheap c1 (hw.lt _ _ _ _ _ hr1) (hne_of b1 g1 c1 d1 s1 rw1 e hr1 (.inl ⟨us, h2⟩))).trans k1, k2, k3, fun i v hi => let ⟨hc0, v', m1, m2⟩ := k4 i v hi; ⟨hc0, v', m1, m2.mono hsub⟩, k5⟩
  · intro b1 c1 d1 s1 str pos h1 h2
    by_cases e : b1 = b
    · subst e; rw [hset] at h2; cases h2
    · rcases hcase b1 none _ h1 with ⟨e', _, _⟩ | ⟨_, hr1⟩
      · exact absurd e' e
      · rw [List.getElem?_set_ne (Ne.symm e)] at h2
        rw [hheap c1 (hw.lt _ _ _ _ _ hr1) (hne_of b1 none c1 d1 s1 true e hr1 (.inr ⟨rfl, rfl, str, pos, h2⟩))]
        exact hw.iter b1 c1 d1 s1 str pos hr1 h2
  · intro b1 g1 c1 d1 s1 h1
    rcases hcase b1 g1 _ h1 with ⟨_, _, hx⟩ | ⟨_, hr1⟩
    · cases hx; exact hc'lt
    · exact Nat.lt_of_lt_of_le (hw.lt _ _ _ _ _ hr1) hsz
  · intro b1 g1 b2 g2 k d1 s1 d2 s2 rw1 rw2 h1 h2 hne k1 k2
    rcases hcurr b1 g1 rw1 k1 with ⟨rfl, rfl, rfl⟩ | ⟨e1, k1'⟩
    · rcases hcurr b2 g2 rw2 k2 with ⟨rfl, _, _⟩ | ⟨e2, k2'⟩
      · exact absurd rfl hne
      · rw [hnew] at h1; cases h1
        rcases hcase b2 g2 _ h2 with ⟨e', _, _⟩ | ⟨_, hr2⟩
        · exact absurd e' e2
        · exfalso
          rcases hc' with rfl | rfl
          · exact hne_of b2 g2 _ _ _ rw2 e2 hr2 k2' rfl
          · exact absurd (hw.lt _ _ _ _ _ hr2) (Nat.lt_irrefl _)
    · rcases hcurr b2 g2 rw2 k2 with ⟨rfl, rfl, rfl⟩ | ⟨e2, k2'⟩
      · rw [hnew] at h2; cases h2
        rcases hcase b1 g1 _ h1 with ⟨e', _, _⟩ | ⟨_, hr1⟩
        · exact absurd e' e1
        · exfalso
          rcases hc' with rfl | rfl
          · exact hne_of b1 g1 _ _ _ rw1 e1 hr1 k1' rfl
          · exact absurd (hw.lt _ _ _ _ _ hr1) (Nat.lt_irrefl _)
      · rcases hcase b1 g1 _ h1 with ⟨e', _, _⟩ | ⟨_, hr1⟩
        · exact absurd e' e1
        · rcases hcase b2 g2 _ h2 with ⟨e', _, _⟩ | ⟨_, hr2⟩
          · exact absurd e' e2
          · exact hw.inj b1 g1 b2 g2 k d1 s1 d2 s2 rw1 rw2 hr1 hr2 hne k1' k2'
  · intro k hk hn
    refine hheap k hk fun e => hn ⟨b, g, d, s, Nat.le_refl _, e ▸ hr, hcur⟩
  · intro b1 hb1 hlt
    exact List.getElem?_set_ne (by omega)
  · intro b1 g1 x hb1 hx
    rcases hcase b1 g1 x hx with ⟨rfl, _, _⟩ | ⟨_, hr1⟩
    · exact .inr ⟨g, _, hr, hcur⟩
    · exact .inl hr1
  · intro b1 g1 k d1 s1 rw1 hk h1 k1
    rcases hcurr b1 g1 rw1 k1 with ⟨rfl, rfl, rfl⟩ | ⟨e1, k1'⟩
    · rw [hnew] at h1; cases h1
      rcases hc' with rfl | rfl
      · exact ⟨g, d, s, hr, hcur⟩
      · omega
    · rcases hcase b1 g1 _ h1 with ⟨e', _, _⟩ | ⟨_, hr1⟩
      · exact absurd e' e1
      · exact ⟨g1, d1, s1, hr1, k1'⟩
  · intro b1 g1 x hlt hx hb1
    rcases hcase b1 g1 x hx with ⟨rfl, _, _⟩ | ⟨_, hr1⟩
    · omega
    · exact hr1

theorem Post.turnIter {ρ : Rho} {h : Heap} {w w' : World} (hd : Dom ρ h) (hw : WRel ρ h w) {b c d s : Nat} {str : ByteArray} {pos pos' : Nat}
    (hr : ρ b none = some (c, d, s)) (hb : h[b]? = some (.iter str pos))
    (hsz : w'.heap.size = w.heap.size) (hc : w'.heap[c]? = some (.stringIter str pos')) (hheap : ∀ k, k ≠ c → w'.heap[k]? = w.heap[k]?)
    (hos : w'.os = w.os) (htape : w'.tape = w.tape) (hout : w'.output = w.output) :
    Post ρ h w ρ (h.set b (.iter str pos')) w' b := by
  have hblt : b < h.length := (List.getElem?_eq_some_iff.1 hb).1
  have hset : (h.set b (.iter str pos'))[b]? = some (.iter str pos') := by simp [hblt]
  have hcur : curr h b none true := .inr ⟨rfl, rfl, str, pos, hb⟩
  have hd0 : d = 0 := (hw.iter b c d s str pos hr hb).2
  have hcurr : ∀ b1 g1 rw1, curr (h.set b (.iter str pos')) b1 g1 rw1 → curr h b1 g1 rw1 := by
    intro b1 g1 rw1 hk
    by_cases e : b1 = b
    · subst e
      rcases hk with ⟨us, hus⟩ | ⟨h1, h2, st, p, hst⟩
      · rw [hset] at hus; cases hus
      · exact .inr ⟨h1, h2, str, pos, hb⟩
    · exact (curr_set_ne e).1 hk
  have hne_of : ∀ b1 g1 c1 d1 s1 rw1, b1 ≠ b → ρ b1 g1 = some (c1, d1, s1) → curr h b1 g1 rw1 → c1 ≠ c := by
    intro b1 g1 c1 d1 s1 rw1 hne h1 h2 e
    subst e
    have := (hw.inj b1 g1 b none c1 d1 s1 d s rw1 true h1 hr hne h2 hcur).2
    cases this
  refine ⟨Sub.refl ρ, ?_, ⟨?_, ?_, ?_, ?_⟩, hos, htape, hout, by omega, ?_, by simp, ?_, fun b1 g1 x _ hx => .inl hx, ?_, fun b1 g1 x _ hx _ => hx⟩
  · intro b1 g1 x hx
    obtain ⟨o, ho, hle⟩ := hd b1 g1 x hx
    by_cases e : b1 = b
    · subst e; rw [hb] at ho; cases ho; exact ⟨_, hset, hle⟩
    · exact ⟨o, by rw [List.getElem?_set_ne (Ne.symm e)]; exact ho, hle⟩
  · intro b1 g1 c1 d1 s1 us rw1 h1 h2
    by_cases e : b1 = b
    · subst e; rw [hset] at h2; cases h2
    · rw [List.getElem?_set_ne (Ne.symm e)] at h2
      exact (hw.cells b1 g1 c1 d1 s1 us rw1 h1 h2).same (hheap c1 (hne_of b1 g1 c1 d1 s1 rw1 e h1 (.inl ⟨us, h2⟩)))
  · intro b1 c1 d1 s1 st p h1 h2
    by_cases e : b1 = b
    · subst e
      rw [hset] at h2; cases h2
      rw [hr] at h1; cases h1
      exact ⟨hc, hd0⟩
    · rw [List.getElem?_set_ne (Ne.symm e)] at h2
      rw [hheap c1 (hne_of b1 none c1 d1 s1 true e h1 (.inr ⟨rfl, rfl, st, p, h2⟩))]
      exact hw.iter b1 c1 d1 s1 st p h1 h2
  · intro b1 g1 c1 d1 s1 h1
    rw [hsz]; exact hw.lt b1 g1 c1 d1 s1 h1
  · intro b1 g1 b2 g2 k d1 s1 d2 s2 rw1 rw2 h1 h2 hne k1 k2
    exact hw.inj b1 g1 b2 g2 k d1 s1 d2 s2 rw1 rw2 h1 h2 hne (hcurr _ _ _ k1) (hcurr _ _ _ k2)
  · intro k hk hn
    exact hheap k fun e => hn ⟨b, none, d, s, Nat.le_refl _, e ▸ hr, hcur⟩
  · intro b1 hb1 hlt
    exact List.getElem?_set_ne (by omega)
  · intro b1 g1 k d1 s1 rw1 hk h1 k1
    exact ⟨g1, d1, s1, h1, hcurr _ _ _ k1⟩

def HExt (h h' : Heap) (l : Nat) : Prop := h.length ≤ h'.length ∧ ∀ b, b < h.length → b < l → h'[b]? = h[b]?

theorem HExt.refl (h : Heap) (l : Nat) : HExt h h l := ⟨Nat.le_refl _, fun _ _ _ => rfl⟩
theorem HExt.trans {h h1 h2 : Heap} {l l1 l2 : Nat} (p : HExt h h1 l1) (q : HExt h1 h2 l2) (h1l : l ≤ l1) (h2l : l ≤ l2) : HExt h h2 l :=
  ⟨Nat.le_trans p.1 q.1, fun b hb hl => by rw [q.2 b (Nat.lt_of_lt_of_le hb p.1) (by omega), p.2 b hb (by omega)]⟩
theorem HExt.mono {h h' : Heap} {l l' : Nat} (p : HExt h h' l) (hl : l' ≤ l) : HExt h h' l' := ⟨p.1, fun b hb hx => p.2 b hb (by omega)⟩
theorem HExt.append (h l' : Heap) (l : Nat) : HExt h (h ++ l') l := ⟨by simp, fun b hb _ => List.getElem?_append_left hb⟩
theorem HExt.set (h : Heap) (b : Nat) (o : AObj) : HExt h (h.set b o) b := ⟨by simp, fun b' _ hl => List.getElem?_set_ne (by omega)⟩

structure TRel (N : Nat) (ρ : Rho) (t : Tm) (a : Act) : Prop where
  size : N ≤ a.tmps.size
  at_ : ∀ (i : Nat) (v : Value), gt t i = some v → ∃ v', a.tmps[i]? = some v' ∧ VRel ρ v v'

theorem TRel.mono {N : Nat} {ρ ρ' : Rho} (hs : Sub ρ ρ') {t : Tm} {a : Act} (h : TRel N ρ t a) : TRel N ρ' t a :=
  ⟨h.size, fun i v hi => let ⟨v', h1, h2⟩ := h.at_ i v hi; ⟨v', h1, h2.mono hs⟩⟩

theorem TRel.put {N : Nat} {ρ : Rho} {t : Tm} {a : Act} (h : TRel N ρ t a) {dst : Option Nat} (hd : ∀ d, dst = some d → d < N) {v v' : Value} (hv : VRel ρ v v') : TRel N ρ (put t dst v) (a.put dst v') := by
  cases dst with
  | none => exact h
  | some d =>
    have hlt : d < a.tmps.size := Nat.lt_of_lt_of_le (hd d rfl) h.size
    refine ⟨by simpa [Act.put] using h.size, fun i u hi => ?_⟩
    simp only [AM.put, gt] at hi
    by_cases e : d = i
    · subst e
      simp at hi; subst hi
      exact ⟨v', by simp [Act.put, Array.getElem?_setIfInBounds, hlt], hv⟩
    · rw [if_neg e] at hi
      obtain ⟨u', h1, h2⟩ := h.at_ i u hi
      exact ⟨u', by simp [Act.put, Array.getElem?_setIfInBounds, e, h1], h2⟩

theorem TRel.keep {N : Nat} {ρ : Rho} {t : Tm} {a : Act} (h : TRel N ρ t a) (l : List Nat) : TRel N ρ (keepT t l) a := by
  refine ⟨h.size, fun i v hi => ?_⟩
  have : ∀ l : List Nat, gt (keepT t l) i = some v → gt t i = some v := by
    intro l
    induction l with
    | nil => intro hh; simp [keepT, gt] at hh
    | cons j r ih =>
      intro hh
      simp only [keepT] at hh
      split at hh
      · rename_i u hu
        simp only [gt] at hh
        split at hh
        · rename_i e; subst e; rw [hu]; exact hh
        · exact ih hh
      · exact ih hh
  exact h.at_ i v (this l hi)

end Go.AM
