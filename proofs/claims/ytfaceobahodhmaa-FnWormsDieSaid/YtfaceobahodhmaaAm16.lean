/- A region that draws its order: each order answers as the text's does. -/
import Derived.Test.YtfaceobahodhmaaAm15
set_option linter.unusedSimpArgs false
set_option maxHeartbeats 4000000
set_option maxRecDepth 100000
namespace Go.AM
set_option linter.unusedVariables false
variable {P : Program} {X : Ext} {N : Nat}

def Pre (h h' : Heap) : Prop := HExt h h' h.length

theorem Pre.get {h h' : Heap} (p : Pre h h') {b : Nat} (hb : b < h.length) : h'[b]? = h[b]? := p.2 b hb hb
theorem Pre.curr {h h' : Heap} (p : Pre h h') {b : Nat} (hb : b < h.length) {g : Option Nat} {rw : Bool} : curr h' b g rw ↔ curr h b g rw := by unfold AM.curr; rw [p.get hb]
theorem Pre.refl (h : Heap) : Pre h h := HExt.refl _ _
theorem Pre.trans {h h1 h2 : Heap} (p : Pre h h1) (q : Pre h1 h2) : Pre h h2 := HExt.trans p q (Nat.le_refl _) p.1

theorem WRel.extend {ρ : Rho} {h h' : Heap} {w : World} (hd : Dom ρ h) (hw : WRel ρ h w) (p : Pre h h') : WRel ρ h' w where
  cells := fun b g c d s vs rw hr hb => hw.cells b g c d s vs rw hr ((p.get (hd.lt hr)).symm.trans hb)
  iter := fun b c d s str pos hr hb => hw.iter b c d s str pos hr ((p.get (hd.lt hr)).symm.trans hb)
  lt := hw.lt
  inj := fun b g b' g' c d s d' s' rw rw' hr hr' hne k k' => hw.inj b g b' g' c d s d' s' rw rw' hr hr' hne ((p.curr (hd.lt hr)).1 k) ((p.curr (hd.lt hr')).1 k')

theorem Dom.extend {ρ : Rho} {h h' : Heap} (hd : Dom ρ h) (p : Pre h h') : Dom ρ h' := fun b g x hx => let ⟨o, ho, hg⟩ := hd b g x hx; ⟨o, (p.get (hd.lt hx)).trans ho, hg⟩

theorem Post.extend {ρ0 ρ : Rho} {h0 h h' : Heap} {w0 w : World} {l : Nat} (q : Post ρ0 h0 w0 ρ h w l) (p : Pre h h') : Post ρ0 h0 w0 ρ h' w l :=
  { q with
    dom := q.dom.extend p
    rel := q.rel.extend q.dom p
    len := Nat.le_trans q.len p.1
    low := fun b hb hl => by rw [p.get (Nat.lt_of_lt_of_le hb q.len)]; exact q.low b hb hl
    own := fun b g c d s rw hc hr hk => q.own b g c d s rw hc hr ((p.curr (q.dom.lt hr)).1 hk) }

theorem gt_keep (t : Tm) (x : Nat) : ∀ l : List Nat, gt (keepT t l) x = if x ∈ l then gt t x else none
  | [] => by simp [keepT, gt]
  | i :: r => by
    have ih := gt_keep t x r
    simp only [keepT]
    by_cases e : x = i
    · subst e
      cases h : gt t x with
      | none => simp only [ih]; simp [h]
      | some v => simp [gt]
    · cases h : gt t i with
      | none => simp only [ih]; simp [e]
      | some v => simp only [gt]; rw [if_neg (Ne.symm e), ih]; simp [e]

theorem fold_bits (ms : List Nat) (i : Nat) : ∀ (es : List Nat) (s : Nat), (es.foldl (fun s e => s ||| 2 ^ e ||| ms.getD e 0) s).testBit i = true → s.testBit i = true ∨ ∃ e ∈ es, i = e ∨ (ms.getD e 0).testBit i = true
  | [], s, h => .inl h
  | e :: es, s, h => by
    rw [List.foldl_cons] at h
    rcases fold_bits ms i es _ h with h1 | ⟨e', h1, h2⟩
    · rw [Nat.testBit_or, Nat.testBit_or, Bool.or_eq_true, Bool.or_eq_true, Nat.testBit_two_pow] at h1
      rcases h1 with (h1 | h1) | h1
      · exact .inl h1
      · exact .inr ⟨e, by simp, .inl (by simpa using h1 : e = i).symm⟩
      · exact .inr ⟨e, by simp, .inr h1⟩
    · exact .inr ⟨e', by simp [h1], h2⟩

def Prec (mk : List Nat) (i j : Nat) : Prop := i < j ∧ (mk.getD j 0).testBit i = true

theorem ordB_prec {mk : List Nat} {i j : Nat} (h : ordB mk i j = true) (hne : i ≠ j) : Prec mk i j ∨ Prec mk j i := by
  unfold ordB at h
  split at h
  · exact .inl ⟨by assumption, h⟩
  · exact .inr ⟨by omega, h⟩

theorem mask_edge {mk : List Nat} {j : Nat} {o : Oper} (h : maskOK mk j o = true) {i : Nat} (hi : (mk.getD j 0).testBit i = true) : ∃ e ∈ edgesOf o, e < j ∧ (i = e ∨ (mk.getD e 0).testBit i = true) := by
  simp only [maskOK, Bool.and_eq_true, beq_iff_eq, List.all_eq_true, decide_eq_true_eq] at h
  obtain ⟨h1, h2⟩ := h
  have : ((edgesOf o).foldl (fun s e => s ||| 2 ^ e ||| mk.getD e 0) 0).testBit i = true := by
    rw [← h1, Nat.testBit_or, hi, Bool.true_or]
  rcases fold_bits mk i _ _ this with h3 | ⟨e, h3, h4⟩
  · simp at h3
  · exact ⟨e, h3, h2 e h3, h4⟩

theorem closed_prec {ops : Array Oper} {mk : List Nat} {L : Nat → Prop} (hmk : ∀ j o, ops[j]? = some o → maskOK mk j o = true)
    (hsz : ∀ j, L j → j < ops.size) (hcl : ∀ j o, ops[j]? = some o → L j → ∀ e ∈ edgesOf o, L e) :
    ∀ n j o, j ≤ n → ops[j]? = some o → (∀ e ∈ edgesOf o, L e) → ∀ i, (mk.getD j 0).testBit i = true → L i := by
  intro n
  induction n with
  | zero =>
    intro j o hj ho he i hi
    obtain ⟨e, h1, h2, h3⟩ := mask_edge (hmk j o ho) hi
    omega
  | succ n ih =>
    intro j o hj ho he i hi
    obtain ⟨e, h1, h2, h3⟩ := mask_edge (hmk j o ho) hi
    rcases h3 with rfl | h3
    · exact he i h1
    · have hle := hsz e (he e h1)
      have hoe : ops[e]? = some ops[e] := Array.getElem?_eq_getElem hle
      exact ih e _ (by omega) hoe (hcl e _ hoe (he e h1)) i h3

def StepEx (P : Program) (X : Ext) (T : Nat → Tm) (H : Nat → Heap) (V : Nat → Value) (Lw : Nat → Nat) (low : Nat) (j : Nat) (m : MOper) : Prop :=
  Want m (T j) true ∧ DoSim P X m.op (T j) (H j) (V j, H (j + 1), Lw j) ∧ ((H j).length ≤ Lw j ∨ m.bar = true) ∧ tell m.op (T j) (H j) (H (j + 1)) m.chk ∧ low ≤ Lw j

def StepOK (P : Program) (X : Ext) (T : Nat → Tm) (H : Nat → Heap) (V : Nat → Value) (Lw : Nat → Nat) (low : Nat) (j : Nat) (m : MOper) : Prop :=
  T (j + 1) = put (T j) m.dst (V j) ∧ HExt (H j) (H (j + 1)) (Lw j) ∧
  ((Want m (T j) false ∧ V j = undefV ∧ H (j + 1) = H j ∧ Lw j = (H j).length) ∨ StepEx P X T H V Lw low j m)

theorem Tr.seq {ms : List MOper} {t : Tm} {h : Heap} {l : Nat} {r : Tm × Heap × Nat} (htr : Tr P X ms t h l r) :
    ∃ (T : Nat → Tm) (H : Nat → Heap) (V : Nat → Value) (Lw : Nat → Nat), T 0 = t ∧ H 0 = h ∧ T ms.length = r.1 ∧ H ms.length = r.2.1 ∧
      ∀ (j : Nat) (m : MOper), ms[j]? = some m → StepOK P X T H V Lw r.2.2 j m := by
  induction htr with
  | nil t h l => exact ⟨fun _ => t, fun _ => h, fun _ => undefV, fun _ => 0, rfl, rfl, rfl, rfl, fun j m hj => by simp at hj⟩
  | @skip m ms t h l r hw htr ih =>
    obtain ⟨T, H, V, Lw, h1, h2, h3, h4, h5⟩ := ih
    refine ⟨fun | 0 => t | i + 1 => T i, fun | 0 => h | i + 1 => H i, fun | 0 => undefV | i + 1 => V i, fun | 0 => h.length | i + 1 => Lw i, rfl, rfl, h3, h4, ?_⟩
    intro j m' hj
    cases j with
    | zero =>
      simp at hj; subst hj
      exact ⟨h1, by show HExt h (H 0) h.length; rw [h2]; exact HExt.refl _ _, .inl ⟨hw, rfl, h2, rfl⟩⟩
    | succ j => exact h5 j m' (by simpa using hj)
  | @exec m ms t h l r x hw hs hb hk htr ih =>
    obtain ⟨T, H, V, Lw, h1, h2, h3, h4, h5⟩ := ih
    refine ⟨fun | 0 => t | i + 1 => T i, fun | 0 => h | i + 1 => H i, fun | 0 => x.1 | i + 1 => V i, fun | 0 => x.2.2 | i + 1 => Lw i, rfl, rfl, h3, h4, ?_⟩
    intro j m' hj
    cases j with
    | zero =>
      simp at hj; subst hj
      refine ⟨h1, ?_, .inr ⟨hw, ?_, hb, ?_, ?_⟩⟩
      · show HExt h (H 0) x.2.2
        rw [h2]; exact hs.2.2.1
      · show DoSim P X m.op t h (x.1, H 0, x.2.2)
        rw [h2]; exact hs
      · show tell m.op t h (H 0) m.chk
        rw [h2]; exact hk
      · show r.2.2 ≤ x.2.2
        have := htr.hext.2
        omega
    | succ j => exact h5 j m' (by simpa using hj)

structure Ctx (P : Program) (X : Ext) (N : Nat) (ops : Array Oper) (mk : List Nat) (ms : List MOper) (T : Nat → Tm) (H : Nat → Heap) (V : Nat → Value) (Lw : Nat → Nat) (low : Nat) : Prop where
  comp : ∀ j o, ops[j]? = some o → ∃ m, ms[j]? = some m ∧ cOp P X o = some m.op ∧ guardSlot ops o = some m.guard ∧ m.dst = o.dst ∧ dstOK N o = true ∧ (m.bar = barOK P X ops mk j ∧ m.chk = chkOf P X ops mk j) ∧ StepOK P X T H V Lw low j m
  mask : ∀ j o, ops[j]? = some o → maskOK mk j o = true
  tmps : ∀ i j oi o m d, ops[i]? = some oi → ops[j]? = some o → ms[j]? = some m → i ≠ j → oi.dst = some d → d ∈ m.names → ordB mk i j = true

section
variable {ops : Array Oper} {mk : List Nat} {ms : List MOper} {T : Nat → Tm} {H : Nat → Heap} {V : Nat → Value} {Lw : Nat → Nat} {low : Nat}

def Wrb (ms : List MOper) (T : Nat → Tm) (H : Nat → Heap) (Lw : Nat → Nat) (i b : Nat) : Prop :=
  Lw i ≤ b ∧ b < (H i).length ∧ ∀ m, ms[i]? = some m → (m.op.isCall = false → b ∈ foot (T i) m.op) ∧ (m.op.isCall = true → (H (i + 1))[b]? ≠ (H i)[b]?)

def Tch (ms : List MOper) (T : Nat → Tm) (j b : Nat) : Prop :=
  ∀ m, ms[j]? = some m → m.op.pure = false ∧ (m.op.isCall = false → b ∈ foot (T j) m.op)

theorem Ctx.mono (C : Ctx P X N ops mk ms T H V Lw low) {i : Nat} : ∀ {k : Nat}, i ≤ k → k ≤ ops.size → (H i).length ≤ (H k).length := by
  intro k
  induction k with
  | zero => intro h1 _; have : i = 0 := by omega
            subst this; exact Nat.le_refl _
  | succ k ih =>
    intro h1 h2
    by_cases e : i = k + 1
    · subst e; exact Nat.le_refl _
    · obtain ⟨m, _, _, _, _, _, _, hs⟩ := C.comp k ops[k] (Array.getElem?_eq_getElem (by omega))
      exact Nat.le_trans (ih (by omega) (by omega)) hs.2.1.1

theorem Ctx.tmp (C : Ctx P X N ops mk ms T H V Lw low) {x i : Nat} : ∀ {k : Nat}, i ≤ k → k ≤ ops.size → (∀ p o, i ≤ p → p < k → ops[p]? = some o → o.dst ≠ some x) → gt (T k) x = gt (T i) x := by
  intro k
  induction k with
  | zero => intro h1 _ _; have : i = 0 := by omega
            subst this; rfl
  | succ k ih =>
    intro h1 h2 h3
    by_cases e : i = k + 1
    · subst e; rfl
    · have ho : ops[k]? = some ops[k] := Array.getElem?_eq_getElem (by omega)
      obtain ⟨m, _, _, _, hd, _, _, hs⟩ := C.comp k _ ho
      rw [hs.1, ← ih (by omega) (by omega) fun p o hp hk => h3 p o hp (by omega)]
      have hx := h3 k _ (by omega) (by omega) ho
      rw [hd]
      cases hdst : (ops[k]'(by omega)).dst with
      | none => rfl
      | some d =>
        rw [hdst] at hx
        simp only [put, gt]
        rw [if_neg (fun e => hx (by rw [e]))]

theorem Ctx.const (C : Ctx P X N ops mk ms T H V Lw low) {b i : Nat} (hb : b < (H i).length) : ∀ {k : Nat}, i ≤ k → k ≤ ops.size → (∀ p, i ≤ p → p < k → ¬ Wrb ms T H Lw p b) → (H k)[b]? = (H i)[b]? := by
  intro k
  induction k with
  | zero => intro h1 _ _; have : i = 0 := by omega
            subst this; rfl
  | succ k ih =>
    intro h1 h2 h3
    by_cases e : i = k + 1
    · subst e; rfl
    · obtain ⟨m, hm, _, _, _, _, _, hs⟩ := C.comp k ops[k] (Array.getElem?_eq_getElem (by omega))
      rw [← ih (by omega) (by omega) fun p hp hk => h3 p hp (by omega)]
      have hbk : b < (H k).length := Nat.lt_of_lt_of_le hb (C.mono (by omega) (by omega))
      by_cases hl : b < Lw k
      · exact hs.2.1.2 b hbk hl
      · rcases hs.2.2 with ⟨_, _, h4, _⟩ | ⟨_, hD, _⟩
        · rw [h4]
        · have hn := h3 k (by omega) (by omega)
          have : ∃ m', ms[k]? = some m' ∧ ((m'.op.isCall = false ∧ b ∉ foot (T k) m'.op) ∨ (m'.op.isCall = true ∧ (H (k + 1))[b]? = (H k)[b]?)) := by
            refine Classical.byContradiction fun hc => hn ⟨by omega, hbk, fun m' h5 => ⟨fun h6 => Classical.byContradiction fun h7 => hc ⟨m', h5, .inl ⟨h6, h7⟩⟩, fun h6 h7 => hc ⟨m', h5, .inr ⟨h6, h7⟩⟩⟩⟩
          obtain ⟨m', h5, ⟨h6, h7⟩ | ⟨_, h7⟩⟩ := this
          · rw [hm] at h5; cases h5
            obtain ⟨h2', hL, _⟩ := hD.2.2.2.1 h6 (H k) rfl (fun _ _ => rfl)
            exact (hL.2.1 b hbk h7).2
          · exact h7

theorem Ctx.wr (C : Ctx P X N ops mk ms T H V Lw low) {i b : Nat} {m : MOper} (hm : ms[i]? = some m) (hs : StepOK P X T H V Lw low i m) (hw : Wrb ms T H Lw i b) :
    StepEx P X T H V Lw low i m ∧ m.op.pure = false ∧ m.bar = true := by
  obtain ⟨h1, h2, h3⟩ := hw
  rcases hs.2.2 with ⟨_, _, _, h⟩ | hE
  · omega
  · refine ⟨hE, ?_, hE.2.2.1.resolve_left (by omega)⟩
    cases hp : m.op.pure
    · rfl
    · have := (hE.2.1.2.1 hp).1
      simp only [Prod.mk.injEq] at this
      omega

theorem Ctx.wrTch (C : Ctx P X N ops mk ms T H V Lw low) {i b : Nat} {m : MOper} (hm : ms[i]? = some m) (hs : StepOK P X T H V Lw low i m) (hw : Wrb ms T H Lw i b) : Tch ms T i b := fun m' hm' => by
  rw [hm] at hm'; cases hm'
  exact ⟨(C.wr hm hs hw).2.1, (hw.2.2 m hm).1⟩

theorem mem_foot {t : Tm} {m : MOp} {b : Nat} : b ∈ foot t m ↔ ∃ x ∈ m.addrs, blkOf (ev t x) = some b := by
  unfold foot; rw [List.mem_filterMap]

theorem apart1_mem {t : Tm} {v : Option Value} : ∀ {ys : List Opd}, apart1 t v ys = true → ∀ y ∈ ys, apart v (ev t y) = true
  | [], _, y, hy => by cases hy
  | z :: zs, h, y, hy => by
    simp only [apart1, Bool.and_eq_true] at h
    rcases List.mem_cons.1 hy with rfl | hy
    · exact h.1
    · exact apart1_mem h.2 y hy

theorem apartAll_mem {t : Tm} : ∀ {xs ys : List Opd}, apartAll t xs ys = true → ∀ x ∈ xs, ∀ y ∈ ys, apart (ev t x) (ev t y) = true
  | [], ys, _, x, hx => by cases hx
  | z :: zs, ys, h, x, hx => by
    simp only [apartAll, Bool.and_eq_true] at h
    rcases List.mem_cons.1 hx with rfl | hx
    · exact apart1_mem h.1
    · exact apartAll_mem h.2 x hx

theorem Ctx.listed (C : Ctx P X N ops mk ms T H V Lw low) {j i b : Nat} {mj mi : MOper} (hij : j < i) (hi : i < ops.size) (hcj : cOp P X ops[j] = some mj.op)
    (hc : (chkP P X ops mk j i || chkC P X ops mk j i) = true) (hch : mi.chk = chkOf P X ops mk i) (h1 : b ∈ foot (T j) mj.op) : ∃ y ∈ mi.chk, blkOf (ev (T i) y) = some b := by
  have hoj : opAt P X ops j = some mj.op := by simp [opAt, show j < ops.size by omega, hcj]
  obtain ⟨y, hy, hyb⟩ := mem_foot.1 h1
  refine ⟨y, ?_, ?_⟩
  · rw [hch]
    unfold chkOf
    rw [List.mem_flatMap]
    refine ⟨j, by simpa using hij, ?_⟩
    rw [if_pos hc, hoj]
    exact hy
  · have hst : ∀ k, k < i → k < j ∨ (match (ops[k]?).bind (·.dst) with | some d => !(opSlots (opAt P X ops j)).contains d | none => true) = true := by
      rw [Bool.or_eq_true] at hc
      rcases hc with hc | hc
      · simp only [chkP, Bool.and_eq_true, List.all_eq_true, List.mem_range, Bool.or_eq_true, decide_eq_true_eq] at hc
        exact hc.2
      · simp only [chkC, Bool.and_eq_true, List.all_eq_true, List.mem_range, Bool.or_eq_true, decide_eq_true_eq] at hc
        exact hc.2
    rw [← hyb]
    cases y with
    | val v => rfl
    | tmp d =>
      simp only [ev]
      congr 1
      refine C.tmp (by omega) (by omega) fun p o hp1 hp2 ho hd => ?_
      have := (hst p hp2).resolve_left (by omega)
      rw [ho] at this
      simp only [Option.bind_some, hd, hoj, opSlots] at this
      have hin : d ∈ mj.op.addrs.flatMap opdSlots := List.mem_flatMap.2 ⟨_, hy, by simp [opdSlots]⟩
      simp [hin] at this

theorem Ctx.told (C : Ctx P X N ops mk ms T H V Lw low) {j i b : Nat} {mj mi : MOper} (hij : j < i) (hi : i < ops.size) (hcj : cOp P X ops[j] = some mj.op) (hcl : mi.op.isCall = false)
    (hc : (chkP P X ops mk j i || chkC P X ops mk j i) = true) (hch : mi.chk = chkOf P X ops mk i) (hE : StepEx P X T H V Lw low i mi) (h1 : b ∈ foot (T j) mj.op) (h2 : b ∈ foot (T i) mi.op) : False := by
  obtain ⟨y, hy, hyb⟩ := C.listed hij hi hcj hc hch h1
  obtain ⟨x, hx, hxb⟩ := mem_foot.1 h2
  have ht := hE.2.2.2.1
  unfold tell at ht
  rw [hcl] at ht
  have hap := apartAll_mem (by simpa using ht) x hx y hy
  unfold apart at hap
  rw [hxb, hyb] at hap
  simp at hap

theorem sameAll_mem {t : Tm} {h h' : Heap} : ∀ {ys : List Opd}, sameAll t h h' ys → ∀ y ∈ ys, sameAt h h' (blkOf (ev t y))
  | [], _, y, hy => by cases hy
  | z :: zs, hs, y, hy => by
    rcases List.mem_cons.1 hy with rfl | hy
    · exact hs.1
    · exact sameAll_mem hs.2 y hy

theorem Ctx.toldC (C : Ctx P X N ops mk ms T H V Lw low) {j i b : Nat} {mj mi : MOper} (hij : j < i) (hi : i < ops.size) (hcj : cOp P X ops[j] = some mj.op) (hcl : mi.op.isCall = true)
    (hc : (chkP P X ops mk j i || chkC P X ops mk j i) = true) (hch : mi.chk = chkOf P X ops mk i) (hE : StepEx P X T H V Lw low i mi) (h1 : b ∈ foot (T j) mj.op) : (H (i + 1))[b]? = (H i)[b]? := by
  obtain ⟨y, hy, hyb⟩ := C.listed hij hi hcj hc hch h1
  have ht := hE.2.2.2.1
  unfold tell at ht
  rw [hcl] at ht
  have hap := sameAll_mem (by simpa using ht) y hy
  rw [hyb] at hap
  exact hap

theorem Ctx.free (C : Ctx P X N ops mk ms T H V Lw low) {i j b : Nat} (hi : i < ops.size) (hj : j < ops.size) (hw : Wrb ms T H Lw i b) (hne : i ≠ j) {m : MOper} (hm : ms[j]? = some m) (hE : StepEx P X T H V Lw low j m) (ht : Tch ms T j b) : Prec mk i j ∨ Prec mk j i := by
  have hoi : ops[i]? = some ops[i] := Array.getElem?_eq_getElem hi
  have hoj : ops[j]? = some ops[j] := Array.getElem?_eq_getElem hj
  obtain ⟨mi, h1, h1c, _, _, _, ⟨h2, h2c⟩, h3⟩ := C.comp i _ hoi
  obtain ⟨mj, k1, k1c, _, _, _, ⟨k2, k2c⟩, k3⟩ := C.comp j _ hoj
  rw [hm] at k1; cases k1
  obtain ⟨hEi, hpi, hb⟩ := C.wr h1 h3 hw
  rw [h2] at hb
  unfold barOK at hb
  rw [List.all_eq_true] at hb
  have := hb (ops[j], j) (by rw [List.mem_zipIdx_iff_getElem?]; simp)
  simp only [Bool.or_eq_true, beq_iff_eq, k1c, Option.map_some, Option.getD_some, (ht m hm).1, Bool.false_eq_true, or_false] at this
  rcases this with (h | h) | h
  · exact absurd h hne
  · exact ordB_prec h hne
  · exfalso
    have hai : opAt P X ops i = some mi.op := by simp [opAt, hi, h1c]
    have haj : opAt P X ops j = some m.op := by simp [opAt, hj, k1c]
    split at h
    · rename_i hlt
      have hlj : m.op.isCall = false := by
        rw [Bool.or_eq_true] at h
        rcases h with h | h
        · simp only [chkP, Bool.and_eq_true] at h
          have := h.1.1.1.1.1.2
          rw [haj] at this
          simpa [isLocO] using this
        · simp only [chkC, Bool.and_eq_true] at h
          have := h.1.1.2
          rw [haj] at this
          cases hq : m.op <;> rw [hq] at this <;> first | rfl | (simp [isRdO, MOp.isRd] at this)
      cases hci : mi.op.isCall
      · exact C.told hlt hi k1c hci h h2c hEi ((ht m hm).2 hlj) ((hw.2.2 mi h1).1 hci)
      · exact (hw.2.2 mi h1).2 hci (C.toldC hlt hi k1c hci h h2c hEi ((ht m hm).2 hlj))
    · rename_i hlt
      have hl2 : mi.op.isCall = false ∧ m.op.isCall = false := by
        simp only [chkP, Bool.and_eq_true] at h
        have n1 := h.1.1.1.1.1.2
        have n2 := h.1.1.1.1.2
        rw [hai] at n1; rw [haj] at n2
        exact ⟨by simpa [isLocO] using n1, by simpa [isLocO] using n2⟩
      exact C.told (by omega) hj h1c hl2.2 (by rw [h]; rfl) k2c hE ((hw.2.2 mi h1).1 hl2.1) ((ht m hm).2 hl2.2)

def Fits (ops : Array Oper) (ms : List MOper) (T : Nat → Tm) (H : Nat → Heap) (Lw : Nat → Nat) (L : Nat → Prop) (b k : Nat) : Prop := ∀ i, i < ops.size → Wrb ms T H Lw i b → (L i ↔ i < k)

structure Inv (ops : Array Oper) (ms : List MOper) (T : Nat → Tm) (H : Nat → Heap) (Lw : Nat → Nat) (low N : Nat) (ρ0 : Rho) (h : Heap) (w0 : World) (L : Nat → Prop) (a : Act) (w : World) (ρ : Rho) (hs : Heap) : Prop where
  sz : ∀ j, L j → j < ops.size
  closed : ∀ j o, ops[j]? = some o → L j → ∀ e ∈ edgesOf o, L e
  len : hs.length = (H ops.size).length
  hsv : ∀ b k, k ≤ ops.size → b < (H k).length → Fits ops ms T H Lw L b k → hs[b]? = (H k)[b]?
  bc : ∀ b k g c d s vs rw, k ≤ ops.size → Fits ops ms T H Lw L b k → (H k)[b]? = some (.cells vs g rw) → ρ b g = some (c, d, s) → CellsOK (cut ρ (H k).length) w c d s vs rw
  post : Post ρ0 h w0 ρ hs w low
  free : ∀ j, j < ops.size → ¬ L j → ∀ b g, (H j).length ≤ b → b < (H (j + 1)).length → ρ b g = none
  wb : ∀ i j b, i < ops.size → j < ops.size → L i → Wrb ms T H Lw i b → (H j).length ≤ b → b < (H (j + 1)).length → L j
  tm : ∀ x v k, k ≤ ops.size → (∀ i o, ops[i]? = some o → o.dst = some x → (L i ↔ i < k)) → gt (T k) x = some v → ∃ v', a.tmps[x]? = some v' ∧ VRel (cut ρ (H k).length) v v'
  tn : N ≤ a.tmps.size
  df : a.defers = []

variable {ρ0 : Rho} {h0 : Heap} {w0 : World} {L L' : Nat → Prop} {a : Act} {w : World} {ρ : Rho} {hs : Heap}

theorem Inv.read (C : Ctx P X N ops mk ms T H V Lw low) (I : Inv ops ms T H Lw low N ρ0 h0 w0 L a w ρ hs) {j : Nat} {o : Oper} {mo : MOper} (ho : ops[j]? = some o) (hm : ms[j]? = some mo) (hl : ¬ L j) (hr : ∀ e ∈ edgesOf o, L e)
    {x : Nat} {v : Value} (hx : x ∈ mo.names) (hv : gt (T j) x = some v) : ∃ v', a.tmps[x]? = some v' ∧ VRel (cut ρ (H j).length) v v' := by
  have hlt : j < ops.size := (Array.getElem?_eq_some_iff.1 ho).1
  refine I.tm x v j (by omega) (fun i oi hoi hd => ?_) hv
  by_cases e : i = j
  · subst e; exact ⟨fun k => absurd k hl, fun k => absurd k (Nat.lt_irrefl _)⟩
  · rcases ordB_prec (C.tmps i j oi o mo x hoi ho hm e hd hx) e with ⟨h1, h2⟩ | ⟨h1, h2⟩
    · exact ⟨fun _ => h1, fun _ => closed_prec C.mask I.sz I.closed j j o (Nat.le_refl _) ho hr i h2⟩
    · exact ⟨fun k => absurd (closed_prec C.mask I.sz I.closed i i oi (Nat.le_refl _) hoi (I.closed i oi hoi k) j h2) hl, fun k => by omega⟩

theorem Inv.tmStep (C : Ctx P X N ops mk ms T H V Lw low) (I : Inv ops ms T H Lw low N ρ0 h0 w0 L a w ρ hs) {j : Nat} {o : Oper} {mo : MOper} (ho : ops[j]? = some o) (hm : ms[j]? = some mo) (hl : ¬ L j) (hdst : mo.dst = o.dst)
    (hdok : dstOK N o = true) (hT : T (j + 1) = put (T j) mo.dst (V j)) (hL : ∀ i, L' i ↔ L i ∨ i = j) {ρ1 : Rho} (hsub : Sub ρ ρ1) {v' : Value} (hv : VRel (cut ρ1 (H (j + 1)).length) (V j) v') :
    ∀ x v k, k ≤ ops.size → (∀ i o, ops[i]? = some o → o.dst = some x → (L' i ↔ i < k)) → gt (T k) x = some v → ∃ v'', (a.put o.dst v').tmps[x]? = some v'' ∧ VRel (cut ρ1 (H k).length) v v'' := by
  have hlt : j < ops.size := (Array.getElem?_eq_some_iff.1 ho).1
  intro x v k hk hwr hg
  by_cases e : o.dst = some x
  · have hjk : j < k := (hwr j o ho e).1 ((hL j).2 (.inr rfl))
    have hno : ∀ p op, j + 1 ≤ p → p < k → ops[p]? = some op → op.dst ≠ some x := by
      intro p op h1 h2 hop hd
      have hlp : L p := ((hL p).1 ((hwr p op hop hd).2 h2)).resolve_right (by omega)
      have hx : x ∈ mo.names := by simp [MOper.names, hdst, e]
      rcases ordB_prec (C.tmps p j op o mo x hop ho hm (by omega) hd hx) (by omega) with ⟨h3, _⟩ | ⟨_, h3⟩
      · omega
      · exact hl (closed_prec C.mask I.sz I.closed p p op (Nat.le_refl _) hop (I.closed p op hop hlp) j h3)
    have h1 := C.tmp (x := x) (i := j + 1) (k := k) (by omega) hk hno
    rw [hg, hT, hdst, e] at h1
    simp [put, gt] at h1
    subst h1
    have hxN : x < a.tmps.size := Nat.lt_of_lt_of_le (dst_lt hdok x e) I.tn
    refine ⟨v', by simp [Act.put, e, Array.getElem?_setIfInBounds, hxN], hv.mono (cut_mono (Sub.refl _) (C.mono (by omega) hk))⟩
  · have hwr' : ∀ i oi, ops[i]? = some oi → oi.dst = some x → (L i ↔ i < k) := fun i oi hoi hd => by
      rw [← hwr i oi hoi hd, hL]
      refine ⟨.inl, fun k => k.resolve_right fun e' => ?_⟩
      subst e'; rw [ho] at hoi; cases hoi; exact e hd
    obtain ⟨u, h1, h2⟩ := I.tm x v k hk hwr' hg
    refine ⟨u, ?_, h2.mono (cut_mono hsub (Nat.le_refl _))⟩
    cases hd : o.dst with
    | none => exact h1
    | some d =>
      have : d ≠ x := fun e' => e (by rw [hd, e'])
      simp [Act.put, Array.getElem?_setIfInBounds, this, h1]

end
end Go.AM
