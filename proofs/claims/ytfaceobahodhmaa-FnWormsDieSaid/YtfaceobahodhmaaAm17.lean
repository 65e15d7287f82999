/- A region that draws its order: the steps, and the law. -/
import Derived.Test.YtfaceobahodhmaaAm16
set_option maxHeartbeats 4000000
set_option maxRecDepth 100000
namespace Go.AM
set_option linter.unusedVariables false
set_option linter.unusedSimpArgs false
variable {P : Program} {X : Ext} {N : Nat}
variable {ops : Array Oper} {mk : List Nat} {ms : List MOper} {T : Nat → Tm} {H : Nat → Heap} {V : Nat → Value} {Lw : Nat → Nat} {low : Nat}
variable {ρ0 : Rho} {h0 : Heap} {w0 : World} {L L' : Nat → Prop} {a : Act} {w : World} {ρ : Rho} {hs : Heap}

def blankO : AObj := .cells [] none false

theorem range_map_get {f : Nat → AObj} {n b : Nat} (hb : b < n) : ((List.range n).map f)[b]? = some (f b) := by simp [hb]

open Classical in
theorem part_exists (ρ : Rho) (K : Nat → Prop) {A : Nat} {h : Heap} (hA : A ≤ h.length) : ∃ h2, Part ρ A K h h2 := by
  refine ⟨(List.range A).map fun b => if K b then (h[b]?).getD blankO else .cells [] (nextg ((h[b]?).getD blankO).gen) false, by simp, hA, fun b hb hk => ?_, fun b hb hk => ?_⟩
  · rw [range_map_get hb, if_pos hk, List.getElem?_eq_getElem (by omega)]; rfl
  · refine ⟨h[b]'(by omega), List.getElem?_eq_getElem (by omega), ?_⟩
    rw [range_map_get hb, if_neg hk, List.getElem?_eq_getElem (by omega)]; rfl

open Classical in
theorem merge_exists (K : Nat → Prop) {A B : Nat} {h h2' : Heap} (hl : h2'.length = B) (hB : B ≤ h.length) (hAB : A ≤ B) : ∃ h1 : Heap, h1.length = h.length ∧ (∀ b, b < B → (A ≤ b ∨ K b) → h1[b]? = h2'[b]?) ∧ (∀ b, (B ≤ b ∨ (b < A ∧ ¬ K b)) → h1[b]? = h[b]?) := by
  refine ⟨(List.range h.length).map fun b => if b < B ∧ (A ≤ b ∨ K b) then (h2'[b]?).getD blankO else (h[b]?).getD blankO, by simp, fun b hb hk => ?_, fun b hb => ?_⟩
  · rw [range_map_get (by omega), if_pos ⟨hb, hk⟩, List.getElem?_eq_getElem (by omega)]; rfl
  · by_cases hlt : b < h.length
    · rw [range_map_get hlt, if_neg ?_, List.getElem?_eq_getElem (by omega)]; rfl
      rintro ⟨h1, h2⟩
      rcases hb with h3 | ⟨h3, h4⟩
      · omega
      · rcases h2 with h2 | h2
        · omega
        · exact h4 h2
    · rw [List.getElem?_eq_none (by simp; omega), List.getElem?_eq_none (by omega)]

theorem Inv.next (C : Ctx P X N ops mk ms T H V Lw low) (hH0 : H 0 = h0) (hw0 : WRel ρ0 h0 w0) (I : Inv ops ms T H Lw low N ρ0 h0 w0 L a w ρ hs) {j : Nat} {o : Oper} {mo : MOper} (ho : ops[j]? = some o) (hm : ms[j]? = some mo) (hl : ¬ L j)
    (hr : ∀ e ∈ edgesOf o, L e) (hdst : mo.dst = o.dst) (hdok : dstOK N o = true) (hT : T (j + 1) = put (T j) mo.dst (V j)) (hL : ∀ i, L' i ↔ L i ∨ i = j)
    {K : Nat → Prop} {h2 h2' : Heap} {ρ' : Rho} {w' : World} {v' : Value} {l : Nat} (hp : Part ρ (H j).length K hs h2) (hlen : h2'.length = (H (j + 1)).length) (p : Post (cut ρ (H j).length) h2 w ρ' h2' w' l)
    (f1 : ∀ b, b < (H (j + 1)).length → ((H j).length ≤ b ∨ K b) → h2'[b]? = (H (j + 1))[b]?) (f2 : ∀ b, Wrb ms T H Lw j b → K b) (f3 : ∀ b i, i < ops.size → Wrb ms T H Lw j b → Wrb ms T H Lw i b → i ≠ j → Prec mk i j ∨ Prec mk j i)
    (f4 : ∀ b j', j' < ops.size → Wrb ms T H Lw j b → (H j').length ≤ b → b < (H (j' + 1)).length → L' j') (f5 : VRel ρ' (V j) v') (f6 : ∀ b, b < (H j).length → K b → ¬ Wrb ms T H Lw j b → h2'[b]? = h2[b]?) (f7 : low ≤ l) :
    ∃ ρ1 hs1, Inv ops ms T H Lw low N ρ0 h0 w0 L' (a.put o.dst v') w' ρ1 hs1 := by
  have hjlt : j < ops.size := (Array.getElem?_eq_some_iff.1 ho).1
  have hAB : (H j).length ≤ (H (j + 1)).length := C.mono (by omega) (by omega)
  have hBN : (H (j + 1)).length ≤ hs.length := by rw [I.len]; exact C.mono (by omega) (by omega)
  have h0A : h0.length ≤ (H j).length := by rw [← hH0]; exact C.mono (Nat.zero_le _) (by omega)
  obtain ⟨hs1, e1, e2, e3⟩ := merge_exists K hlen hBN hAB
  have S : Step ρ (H j).length (H (j + 1)).length K hs h2 h2' hs1 w w' ρ' l := ⟨hp, I.post.dom, I.post.rel, hAB, hBN, hlen, e1, I.free j hjlt hl, e2, e3, p⟩
  have hprec : ∀ i, i < ops.size → Prec mk j i → ¬ L i := fun i hi hpr hLi => by
    have hoi : ops[i]? = some ops[i] := Array.getElem?_eq_getElem hi
    exact hl (closed_prec C.mask I.sz I.closed i i _ (Nat.le_refl _) hoi (I.closed i _ hoi hLi) j hpr.2)
  have hpred : ∀ i, Prec mk i j → L i := fun i hpr => closed_prec C.mask I.sz I.closed j j o (Nat.le_refl _) ho hr i hpr.2

  have hnoW : ∀ b k, Wrb ms T H Lw j b → Fits ops ms T H Lw L' b k → j < k ∧ ∀ q, j + 1 ≤ q → q < k → q < ops.size → ¬ Wrb ms T H Lw q b := fun b k hwb hf => by
    refine ⟨(hf j hjlt hwb).1 ((hL j).2 (.inr rfl)), fun q h1 h3 h4 hwq => ?_⟩
    have hLq : L q := ((hL q).1 ((hf q h4 hwq).2 h3)).resolve_right (by omega)
    rcases f3 b q h4 hwb hwq (by omega) with h5 | h5
    · have := h5.1; omega
    · exact hprec q h4 h5 hLq
  have hnoN : ∀ b k, (H j).length ≤ b → b < (H (j + 1)).length → k ≤ ops.size → b < (H k).length → Fits ops ms T H Lw L' b k → j < k ∧ ∀ q, j + 1 ≤ q → q < k → q < ops.size → ¬ Wrb ms T H Lw q b := fun b k h1 h3 hk hbk hf => by
    have hjk : j < k := Nat.lt_of_not_le fun hle => by
      have := C.mono hle (by omega); omega
    refine ⟨hjk, fun q h4 h5 h6 hwq => ?_⟩
    have hLq : L q := ((hL q).1 ((hf q h6 hwq).2 h5)).resolve_right (by omega)
    exact hl (I.wb q j b h6 hjlt hLq hwq h1 h3)
  have hold : ∀ b k, ¬ Wrb ms T H Lw j b → Fits ops ms T H Lw L' b k → Fits ops ms T H Lw L b k := fun b k hn hf i hi hwi => by
    rw [← hf i hi hwi, hL]
    refine ⟨.inl, fun h => h.resolve_right fun e => ?_⟩
    subst e; exact hn hwi
  have hnW : ∀ b, ((H (j + 1)).length ≤ b ∨ (b < (H j).length ∧ ¬ K b)) → ¬ Wrb ms T H Lw j b := fun b hb hwb => by
    rcases hb with h | h
    · have := hwb.2.1; omega
    · exact h.2 (f2 b hwb)
  refine ⟨join ρ ρ' (H (j + 1)).length, hs1, ?_, ?_, ?_, ?_, ?_, ?_, ?_, ?_, ?_, ?_, by rw [Act.put_defers_eq]; exact I.df⟩
  · intro i hi
    rcases (hL i).1 hi with h | rfl
    · exact I.sz i h
    · exact hjlt
  · intro i oi hoi hi e he
    rcases (hL i).1 hi with h | rfl
    · exact (hL e).2 (.inl (I.closed i oi hoi h e he))
    · rw [ho] at hoi; cases hoi; exact (hL e).2 (.inl (hr e he))
  · rw [e1]; exact I.len
  · intro b k hk hbk hf
    rcases S.cases b with hb | ⟨hb, hbk'⟩
    · rw [S.old b hb]
      exact I.hsv b k hk hbk (hold b k (hnW b hb) hf)
    · rw [S.new b hb hbk', f1 b hb hbk']
      by_cases hwb : Wrb ms T H Lw j b
      · obtain ⟨k1, k2⟩ := hnoW b k hwb hf
        exact (C.const hb k1 hk fun q h1 h3 => k2 q h1 h3 (by omega)).symm
      · by_cases hA : (H j).length ≤ b
        · obtain ⟨k1, k2⟩ := hnoN b k hA hb hk hbk hf
          exact (C.const hb k1 hk fun q h1 h3 => k2 q h1 h3 (by omega)).symm
        · have hKb := hbk'.resolve_left hA
          rw [← f1 b hb (.inr hKb)]
          rw [f6 b (by omega) hKb hwb, hp.keep b (by omega) hKb]
          exact I.hsv b k hk hbk (hold b k hwb hf)
  · intro b k g c d s vs rw hk hf hbk hrb
    have hbl : b < (H k).length := (List.getElem?_eq_some_iff.1 hbk).1
    rcases S.cases b with hb | ⟨hb, hbk'⟩
    · rw [S.same hb] at hrb
      have hf' := hold b k (hnW b hb) hf
      have hcur : curr hs b g rw := .inl ⟨vs, by rw [I.hsv b k hk hbl hf']; exact hbk⟩
      refine ((I.bc b k g c d s vs rw hk hf' hbk hrb).same (S.stay hrb hcur ?_)).mono (cut_mono S.subL (Nat.le_refl _))
      rcases hb with h | h
      · exact .inl (by omega)
      · exact .inr (.inl h.2)
    · by_cases hwb : Wrb ms T H Lw j b ∨ (H j).length ≤ b
      · have hq : j < k ∧ ∀ q, j + 1 ≤ q → q < k → q < ops.size → ¬ Wrb ms T H Lw q b := by
          rcases hwb with h | h
          · exact hnoW b k h hf
          · exact hnoN b k h hb hk hbl hf
        rw [C.const hb hq.1 hk fun q h1 h3 => hq.2 q h1 h3 (by omega), ← f1 b hb hbk'] at hbk
        rw [Step.join_lt hb] at hrb
        refine (p.rel.cells b g c d s vs rw hrb hbk).mono fun b' g' x hx => cut_some.2 ⟨?_, S.subR b' g' x hx⟩
        have h1 := p.dom.lt hx
        have h3 := C.mono (i := j + 1) (k := k) hq.1 hk
        omega
      · have hn1 : ¬ Wrb ms T H Lw j b := fun h => hwb (.inl h)
        have hA : b < (H j).length := Nat.lt_of_not_le fun h => hwb (.inr h)
        have hKb := hbk'.resolve_left (by omega)
        have heq := f6 b hA hKb hn1
        rw [Step.join_lt hb] at hrb
        have hf' := hold b k hn1 hf
        have hhs : hs[b]? = some (.cells vs g rw) := by rw [I.hsv b k hk hbl hf']; exact hbk
        have hg2 : h2[b]? = some (.cells vs g rw) := (hp.keep b hA hKb).trans hhs
        have hrb' : ρ b g = some (c, d, s) := by
          rcases p.wrt b g _ (by rw [hp.len]; exact hA) hrb with q | ⟨g', x', q1, q2⟩
          · exact (cut_some.1 q).2
          · have hg' : g' = g := by
              rcases q2 with ⟨us, hu⟩ | ⟨_, _, st, po, hu⟩
              · rw [hg2] at hu; cases hu; rfl
              · rw [hg2] at hu; cases hu
            subst hg'
            have := p.sub b g' x' q1
            rw [hrb] at this; cases this
            exact (cut_some.1 q1).2
        have h2c := p.rel.cells b g c d s vs rw hrb (heq.trans hg2)
        exact ((I.bc b k g c d s vs rw hk hf' hbk hrb').both h2c).mono (cut_mono S.subR (Nat.le_refl _))
  · exact S.post hw0 I.post f7 h0A
  · intro i hi hli b g h1 h3
    have hne : i ≠ j := fun e => hli ((hL i).2 (.inr e))
    have hli' : ¬ L i := fun k => hli ((hL i).2 (.inl k))
    have hfr := I.free i hi hli' b
    rcases Nat.lt_or_gt_of_ne hne with h | h
    · have hbA : b < (H j).length := Nat.lt_of_lt_of_le h3 (C.mono (by omega) (by omega))
      cases hx : join ρ ρ' (H (j + 1)).length b g with
      | none => rfl
      | some x =>
        rw [Step.join_lt (by omega)] at hx
        obtain ⟨g', x', hx'⟩ := p.touch (by rw [hp.len]; exact hbA) hx
        have hx' := (cut_some.1 hx').2
        rw [hfr g' h1 h3] at hx'
        cases hx'
    · have hbB : (H (j + 1)).length ≤ b := Nat.le_trans (C.mono (by omega) (by omega)) h1
      rw [S.same (.inl hbB)]
      exact hfr g h1 h3
  · intro i j' b hi hj' hLi hwi h1 h3
    by_cases e : i = j
    · subst e; exact f4 b j' hj' hwi h1 h3
    · exact (hL j').2 (.inl (I.wb i j' b hi hj' (((hL i).1 hLi).resolve_right e) hwi h1 h3))
  · refine I.tmStep C ho hm hl hdst hdok hT hL S.subL ?_
    exact f5.mono fun b g x hx => cut_some.2 ⟨by have := p.dom.lt hx; omega, S.subR b g x hx⟩
  · cases hd : o.dst with
    | none => exact I.tn
    | some d => simpa [Act.put, hd] using I.tn

theorem slots_names {m : MOper} {x : Nat} (h : x ∈ m.op.slots) : x ∈ m.names := by
  simp [MOper.names, MOper.reads, h]

theorem guard_names {m : MOper} {x : Nat} {b : Bool} (h : m.guard = some (x, b)) : x ∈ m.names := by
  simp [MOper.names, MOper.reads, h]

theorem cOpd_lit {x : Operand} {v : Value} (h : cOpd x = some (.val v)) : blkOf (some v) = none := by
  cases x with
  | tmp t => simp [cOpd] at h
  | const c =>
    simp only [cOpd] at h
    split at h
    · rename_i hf
      cases h
      cases v with
      | pointer a => cases a with
        | none => rfl
        | some a => simp [flat, flat1, flat0] at hf
      | slice a n c => cases a with
        | none => rfl
        | some a => simp [flat, flat1, flat0] at hf
      | _ => rfl
    · cases h
  | func f => simp only [cOpd, Option.some.injEq, Opd.val.injEq] at h; subst h; rfl
  | global g => simp [cOpd] at h

theorem cOp_lit {o : Oper} {m : MOp} (hc : cOp P X o = some m) : ∀ v, Opd.val v ∈ m.addrs → blkOf (some v) = none := by
  intro v hv
  cases hop : o.op with
  | load t a =>
    simp only [cOp, hop, Option.bind_eq_some_iff, Option.map_eq_some_iff] at hc
    obtain ⟨n, _, y, hy, rfl⟩ := hc
    simp only [MOp.addrs, List.mem_singleton] at hv
    subst hv; exact cOpd_lit hy
  | store t a x =>
    simp only [cOp, hop, Option.bind_eq_some_iff] at hc
    obtain ⟨i, _, y, hy, z, _, hc⟩ := hc
    cases hc
    simp only [MOp.addrs, List.mem_singleton] at hv
    subst hv; exact cOpd_lit hy
  | convert src dst x =>
    simp only [cOp, hop, Option.bind_eq_some_iff] at hc
    obtain ⟨y, hy, hc⟩ := hc
    split at hc
    · cases hc; simp [MOp.addrs] at hv
    · cases hc; simp [MOp.addrs] at hv
    · split at hc
      · cases hc; simp [MOp.addrs] at hv
      · cases hc
    · split at hc
      · cases hc
        simp only [MOp.addrs, List.mem_singleton] at hv
        subst hv; exact cOpd_lit hy
      · cases hc
    · cases hc
  | next x b =>
    cases b with
    | false => simp [cOp, hop] at hc
    | true =>
      simp only [cOp, hop, Option.map_eq_some_iff] at hc
      obtain ⟨y, hy, rfl⟩ := hc
      simp only [MOp.addrs, List.mem_singleton] at hv
      subst hv; exact cOpd_lit hy
  | call c =>
    obtain ⟨callee, args, ts⟩ := c
    cases callee with
    | value x =>
      cases x with
      | func g =>
        simp only [cOp, hop, Option.map_eq_some_iff] at hc
        obtain ⟨zs, hz, hc⟩ := hc
        split at hc <;> (cases hc; simp [MOp.addrs] at hv)
      | tmp g => simp only [cOp, hop, Option.map_eq_some_iff] at hc; obtain ⟨_, _, hc⟩ := hc; cases hc; simp [MOp.addrs] at hv
      | _ => simp [cOp, hop] at hc
    | builtin b =>
      simp only [cOp, hop] at hc
      unfold cBuiltin at hc
      split at hc
      · split at hc
        · simp only [Option.map_eq_some_iff] at hc; obtain ⟨_, _, rfl⟩ := hc; simp [MOp.addrs] at hv
        · simp only [Option.map_eq_some_iff] at hc; obtain ⟨_, _, rfl⟩ := hc; simp [MOp.addrs] at hv
        · cases hc
      · simp only [Option.bind_eq_some_iff] at hc
        obtain ⟨e, _, i, _, hc⟩ := hc
        split at hc
        · cases hc
        · cases hc
        · simp only [Option.bind_eq_some_iff] at hc
          obtain ⟨y, hy, z, hz, q, _, hc⟩ := hc
          split at hc
          · cases hc
          · cases hc
            simp only [MOp.addrs, List.mem_cons, List.not_mem_nil, or_false] at hv
            rcases hv with hv | hv
            · subst hv; exact cOpd_lit hy
            · subst hv; exact cOpd_lit hz
      · cases hc
    | _ => simp [cOp, hop] at hc
  | slice _ _ _ _ mx => cases mx <;> simp only [cOp, hop] at hc <;> repeat' first | (cases hc; done) | (cases hc; simp [MOp.addrs] at hv; done) | (split at hc) | (simp only [Option.bind_eq_some_iff, Option.map_eq_some_iff] at hc) | (obtain ⟨_, hc⟩ := hc)
  | makeFunc fn _ _ => cases fn <;> simp only [cOp, hop] at hc <;> repeat' first | (cases hc; done) | (cases hc; simp [MOp.addrs] at hv; done) | (split at hc) | (simp only [Option.bind_eq_some_iff, Option.map_eq_some_iff] at hc) | (obtain ⟨_, hc⟩ := hc)
  | _ => simp only [cOp, hop] at hc <;> repeat' first | (cases hc; done) | (cases hc; simp [MOp.addrs] at hv; done) | (split at hc) | (simp only [Option.bind_eq_some_iff, Option.map_eq_some_iff] at hc) | (obtain ⟨_, hc⟩ := hc)

theorem addrs_slots {m : MOp} {x : Nat} (h : Opd.tmp x ∈ m.addrs) : x ∈ m.slots := by
  cases m <;> simp only [MOp.addrs, List.mem_cons, List.not_mem_nil, or_false] at h
  all_goals
    first
      | (subst h; simp [MOp.slots, opdSlots]; done)
      | (rw [← h]; simp [MOp.slots, opdSlots]; done)
      | (rcases h with h | h <;> (rw [← h]; simp [MOp.slots, opdSlots]))

theorem rel_blk {ρ : Rho} {v v' : Value} {b : Nat} (h : VRel ρ v v') (hb : blkOf (some v) = some b) : ∃ g x, ρ b g = some x := by
  cases h with
  | ptr h => simp only [blkOf, Option.some.injEq] at hb; subst hb; exact ⟨_, _, h⟩
  | sl h _ _ => simp only [blkOf, Option.some.injEq] at hb; subst hb; exact ⟨_, _, h⟩
  | slE a h => simp only [blkOf, Option.some.injEq] at hb; subst hb; exact ⟨_, _, h⟩
  | _ => simp [blkOf] at hb

theorem Inv.fits (C : Ctx P X N ops mk ms T H V Lw low) (I : Inv ops ms T H Lw low N ρ0 h0 w0 L a w ρ hs) {j : Nat} {o : Oper} {mo : MOper} (ho : ops[j]? = some o) (hm : ms[j]? = some mo) (hl : ¬ L j) (hr : ∀ e ∈ edgesOf o, L e)
    (hE : StepEx P X T H V Lw low j mo) {b : Nat} (ht : Tch ms T j b) : Fits ops ms T H Lw L b j := by
  have hjlt : j < ops.size := (Array.getElem?_eq_some_iff.1 ho).1
  intro i hi hw
  by_cases e : i = j
  · subst e; exact ⟨fun h => absurd h hl, fun h => absurd h (Nat.lt_irrefl _)⟩
  · rcases C.free hi hjlt hw e hm hE ht with h | h
    · exact ⟨fun _ => h.1, fun _ => closed_prec C.mask I.sz I.closed j j o (Nat.le_refl _) ho hr i h.2⟩
    · have hoi : ops[i]? = some ops[i] := Array.getElem?_eq_getElem hi
      refine ⟨fun hLi => absurd (closed_prec C.mask I.sz I.closed i i _ (Nat.le_refl _) hoi (I.closed i _ hoi hLi) j h.2) hl, fun hlt => ?_⟩
      have := h.1; omega

theorem Inv.step (C : Ctx P X N ops mk ms T H V Lw low) (hH0 : H 0 = h0) (hw0 : WRel ρ0 h0 w0) (I : Inv ops ms T H Lw low N ρ0 h0 w0 L a w ρ hs) {j : Nat} {o : Oper} (ho : ops[j]? = some o) (hl : ¬ L j) (hr : ∀ e ∈ edgesOf o, L e)
    (hL : ∀ i, L' i ↔ L i ∨ i = j) {K : Act → World → Prop} {Q : Exit → Act → World → Prop} (hK : ∀ a' w' ρ' hs', Inv ops ms T H Lw low N ρ0 h0 w0 L' a' w' ρ' hs' → K a' w') : wpOp P ops Q j K a w := by
  have hjlt : j < ops.size := (Array.getElem?_eq_some_iff.1 ho).1
  obtain ⟨mo, m1, m2, m3, m4, m5, ⟨m6, m6'⟩, m7⟩ := C.comp j o ho
  have hread : ∀ {x : Nat} {v : Value}, x ∈ mo.names → gt (T j) x = some v → ∃ v', a.tmps[x]? = some v' ∧ VRel (cut ρ (H j).length) v v' := fun hx hv => I.read C ho m1 hl hr hx hv
  have hAN : (H j).length ≤ hs.length := by rw [I.len]; exact C.mono (by omega) (by omega)
  unfold wpOp
  rw [ho]
  simp only
  rcases m7.2.2 with ⟨hwant, hv, hH, hLw⟩ | hE
  · have hwn : Region.wanted o (yielded ops a.tmps) = false := wanted_rel (ρ := cut ρ (H j).length) m3 hwant fun g b v hg hv => hread (guard_names hg) hv
    simp only [hwn, Bool.false_eq_true, if_false]
    obtain ⟨h2, hp⟩ := part_exists ρ (fun _ => False) hAN
    have hnw : ∀ b, ¬ Wrb ms T H Lw j b := fun b hw => by have := hw.1; have := hw.2.1; omega
    obtain ⟨ρ1, hs1, hI⟩ := I.next C hH0 hw0 ho m1 hl hr m4 m5 m7.1 hL (v' := undef) (l := max low (H j).length) hp (h2' := h2) (by rw [hp.len, hH])
      (Post.refl (hp.dom I.post.dom) (hp.rel I.post.dom I.post.rel fun b g c d s vs rw _ hk => hk.elim) _)
      (fun b h1 h3 => by rw [hH] at h1; exact absurd h1 (by have := h3.resolve_right id; omega)) (fun b hw => (hnw b hw).elim) (fun b i _ hw => (hnw b hw).elim) (fun b j' _ hw => (hnw b hw).elim) (by rw [hv]; exact undef_rel _) (fun b _ hk => hk.elim) (Nat.le_max_left _ _)
    exact hK _ _ _ _ hI
  · obtain ⟨hwant, hD, hbar, hchk, hlow⟩ := hE
    have hE : StepEx P X T H V Lw low j mo := ⟨hwant, hD, hbar, hchk, hlow⟩
    have hwn : Region.wanted o (yielded ops a.tmps) = true := wanted_rel (ρ := cut ρ (H j).length) m3 hwant fun g b v hg hv => hread (guard_names hg) hv
    simp only [hwn, if_true]
    refine .inl ?_
    have hag : ∀ i ∈ mo.op.slots, gt (keepT (T j) mo.op.slots) i = gt (T j) i := fun i hi => by rw [gt_keep, if_pos hi]
    have htr : TRel N (cut ρ (H j).length) (keepT (T j) mo.op.slots) a := ⟨I.tn, fun x v hx => by
      rw [gt_keep] at hx
      split at hx
      · rename_i hm; exact hread (slots_names hm) hx
      · cases hx⟩
    have hother : ∀ b i, i < ops.size → Wrb ms T H Lw j b → Wrb ms T H Lw i b → i ≠ j → Prec mk i j ∨ Prec mk j i := fun b i hi hwj hwi hne => by
      have hoi : ops[i]? = some ops[i] := Array.getElem?_eq_getElem hi
      obtain ⟨mi, n1, _, _, _, _, _, n7⟩ := C.comp i _ hoi
      exact C.free hi hjlt hwi hne m1 hE (C.wrTch m1 m7 hwj)
    by_cases hp : mo.op.pure = true
    · obtain ⟨h1, h2⟩ := hD.2.1 hp
      simp only [Prod.mk.injEq, true_and] at h1
      obtain ⟨g2, hpt⟩ := part_exists ρ (fun _ => False) hAN
      have hnw : ∀ b, ¬ Wrb ms T H Lw j b := fun b hw => by have := hw.1; have := hw.2.1; omega
      refine ((h2 N o _ g2 m2 hag) _ a w (hpt.dom I.post.dom) (hpt.rel I.post.dom I.post.rel fun b g c d s vs rw _ hk => hk.elim) htr).wp ?_
      rintro v' w' ⟨ρ', p, hv⟩
      obtain ⟨ρ1, hs1, hI⟩ := I.next C hH0 hw0 ho m1 hl hr m4 m5 m7.1 hL (v' := v') hpt (h2' := g2) (by rw [hpt.len, h1.1]) p
        (fun b h1' h3 => by rw [h1.1] at h1'; exact absurd h1' (by have := h3.resolve_right id; omega)) (fun b hw => (hnw b hw).elim) (fun b i _ hw => (hnw b hw).elim) (fun b j' _ hw => (hnw b hw).elim) hv (fun b _ hk => hk.elim) (by show low ≤ g2.length; have := h1.2; rw [hpt.len]; omega)
      exact hK _ _ _ _ hI
    · have hp : mo.op.pure = false := by simpa using hp
      by_cases hcl : mo.op.isCall = true
      · have htch : ∀ b, Tch ms T j b := fun b m' hm' => by
          rw [m1] at hm'; cases hm'
          exact ⟨hp, fun h => by rw [hcl] at h; cases h⟩
        obtain ⟨g2, hpt⟩ := part_exists ρ (fun _ => True) hAN
        have hg : g2 = H j := by
          refine List.ext_getElem? fun b => ?_
          by_cases hb : b < (H j).length
          · rw [hpt.keep b hb trivial]
            exact I.hsv b j (by omega) hb (I.fits C ho m1 hl hr hE (htch b))
          · rw [List.getElem?_eq_none (by rw [hpt.len]; omega), List.getElem?_eq_none (by omega)]
        have hrel := hpt.rel I.post.dom I.post.rel fun b g c d s vs rw hb _ hr' hcell => by
          refine I.bc b j g c d s vs rw (by omega) (I.fits C ho m1 hl hr hE (htch b)) ?_ hr'
          rw [← I.hsv b j (by omega) hb (I.fits C ho m1 hl hr hE (htch b))]; exact hcell
        have hdom := hpt.dom I.post.dom
        subst hg
        refine ((hD.1 N o _ m2 hag) _ a w hdom hrel htr).wp ?_
        rintro v' w' ⟨ρ', p, hv⟩
        obtain ⟨ρ1, hs1, hI⟩ := I.next C hH0 hw0 ho m1 hl hr m4 m5 m7.1 hL (v' := v') hpt (h2' := H (j + 1)) rfl p
          (fun b _ _ => rfl) (fun b _ => trivial) hother (fun b j' hj' hwj h1 h3 => by
            have hoj' : ops[j']? = some ops[j'] := Array.getElem?_eq_getElem hj'
            obtain ⟨m', n1, n2, _, _, _, _, n7⟩ := C.comp j' _ hoj'
            obtain ⟨_, _, hb⟩ := C.wr m1 m7 hwj
            rw [m6] at hb
            unfold barOK at hb
            rw [List.all_eq_true] at hb
            have := hb (ops[j'], j') (by rw [List.mem_zipIdx_iff_getElem?]; simp)
            have hjj : j' < j := Nat.lt_of_not_le fun hle => by
              have := C.mono (i := j) (k := j') hle (by omega); have := hwj.2.1; omega
            have hnp : m'.op.pure = false := by
              cases hq : m'.op.pure
              · rfl
              · exfalso
                rcases n7.2.2 with ⟨_, _, h4, _⟩ | hE'
                · rw [h4] at h3; omega
                · have := (hE'.2.1.2.1 hq).1
                  simp only [Prod.mk.injEq, true_and] at this
                  rw [this.1] at h3; omega
            simp only [Bool.or_eq_true, beq_iff_eq, n2, Option.map_some, Option.getD_some, hnp, Bool.false_eq_true, or_false] at this
            rcases this with (h | h) | h
            · omega
            · rcases ordB_prec h (by omega) with h | h
              · have := h.1; omega
              · exact (hL j').2 (.inl (closed_prec C.mask I.sz I.closed j j o (Nat.le_refl _) ho hr j' h.2))
            · exfalso
              rw [if_pos hjj, Bool.or_eq_true] at h
              rcases h with h | h
              · simp only [chkP, Bool.and_eq_true] at h
                have h := h.1.1.1.1.2
                have : opAt P X ops j = some mo.op := by simp [opAt, ho, m2]
                rw [this] at h
                simp [isLocO, hcl] at h
              · simp only [chkC, Bool.and_eq_true] at h
                have h := h.1.1.2
                have : opAt P X ops j' = some m'.op := by simp [opAt, hj', n2]
                rw [this] at h
                have hnr : (H (j' + 1)).length = (H j').length := by
                  rcases n7.2.2 with ⟨_, _, h4, _⟩ | hE'
                  · rw [h4]
                  · have := hE'.2.1.2.2.2.2 (by simpa [this, isRdO] using h)
                    simp only at this
                    rw [this]
                omega) hv (fun b hb _ hnw => Classical.byContradiction fun hne => hnw ⟨Nat.le_of_not_lt fun hlt => hne (m7.2.1.2 b hb hlt), hb, fun m' hm' => ⟨fun hc => (by rw [m1] at hm'; cases hm'; rw [hcl] at hc; cases hc), fun _ => hne⟩⟩) hlow
        exact hK _ _ _ _ hI
      · have hcl : mo.op.isCall = false := by simpa using hcl
        have htch : ∀ b, b ∈ foot (T j) mo.op → Tch ms T j b := fun b hb m' hm' => by
          rw [m1] at hm'; cases hm'
          exact ⟨hp, fun _ => hb⟩
        obtain ⟨g2, hpt⟩ := part_exists ρ (fun b => b ∈ foot (T j) mo.op) hAN
        have hagr : ∀ b ∈ foot (T j) mo.op, g2[b]? = (H j)[b]? := fun b hbf => by
          by_cases hb : b < (H j).length
          · rw [hpt.keep b hb hbf]
            exact I.hsv b j (by omega) hb (I.fits C ho m1 hl hr hE (htch b hbf))
          · rw [List.getElem?_eq_none (by rw [hpt.len]; omega), List.getElem?_eq_none (by omega)]
        have hrel := hpt.rel I.post.dom I.post.rel fun b g c d s vs rw hb hbf hr' hcell => by
          refine I.bc b j g c d s vs rw (by omega) (I.fits C ho m1 hl hr hE (htch b hbf)) ?_ hr'
          rw [← I.hsv b j (by omega) hb (I.fits C ho m1 hl hr hE (htch b hbf))]; exact hcell
        have hdom := hpt.dom I.post.dom
        obtain ⟨g2', hloc, hext, hsim⟩ := hD.2.2.2.1 hcl g2 hpt.len hagr
        refine ((hsim N o _ m2 hag) _ a w hdom hrel htr).wp ?_
        rintro v' w' ⟨ρ', p, hv⟩
        obtain ⟨ρ1, hs1, hI⟩ := I.next C hH0 hw0 ho m1 hl hr m4 m5 m7.1 hL (v' := v') hpt (h2' := g2') hloc.1 p
          (fun b _ h3 => hloc.2.2 b h3) (fun b hwj => (hwj.2.2 mo m1).1 hcl) hother (fun b j' hj' hwj h1 h3 => by
            obtain ⟨x, hx, hb⟩ := mem_foot.1 ((hwj.2.2 mo m1).1 hcl)
            cases x with
            | val v => rw [show ev (T j) (.val v) = some v from rfl, cOp_lit m2 v hx] at hb; cases hb
            | tmp d =>
              cases hg : gt (T j) d with
              | none => rw [show ev (T j) (.tmp d) = gt (T j) d from rfl, hg] at hb; cases hb
              | some v =>
                rw [show ev (T j) (.tmp d) = gt (T j) d from rfl, hg] at hb
                obtain ⟨u, _, hu⟩ := hread (slots_names (addrs_slots hx)) hg
                obtain ⟨g, x', hx'⟩ := rel_blk hu hb
                refine (hL j').2 (.inl (Classical.byContradiction fun hn => ?_))
                have := I.free j' hj' hn b g h1 h3
                rw [(cut_some.1 hx').2] at this
                cases this) hv (fun b hb hbf hnw => hext.2 b (by rw [hpt.len]; exact hb) (Nat.lt_of_not_le fun hle => hnw ⟨hle, hb, fun m' hm' => ⟨fun _ => (by rw [m1] at hm'; cases hm'; exact hbf), fun hc => (by rw [m1] at hm'; cases hm'; rw [hcl] at hc; cases hc)⟩⟩)) hlow
        exact hK _ _ _ _ hI

def Lst (listed : Array Bool) (i : Nat) : Prop := listed.getD i false = true

theorem lst_set {listed : Array Bool} {j : Nat} (hj : j < listed.size) (i : Nat) : Lst (listed.setIfInBounds j true) i ↔ Lst listed i ∨ i = j := by
  unfold Lst
  by_cases e : j = i
  · subst e; simp [hj]
  · rw [getD_set_ne false e]
    exact ⟨.inl, fun h => h.resolve_right (Ne.symm e)⟩

theorem getD_tf {listed : Array Bool} {i : Nat} (hi : i < listed.size) : listed.getD i true = listed.getD i false := by
  simp [hi]

theorem edges_mem {o : Oper} {e : Nat} : e ∈ edgesOf o ↔ ∃ d ∈ o.after, Region.binds .any d = true ∧ d.on = e := by
  simp [edgesOf, and_assoc]

theorem any_all (C : Ctx P X N ops mk ms T H V Lw low) (hH0 : H 0 = h0) (hw0 : WRel ρ0 h0 w0) {Q : Exit → Act → World → Prop}
    (hQ : ∀ ρ' a' w', Post ρ0 h0 w0 ρ' (H ops.size) w' low → TRel N ρ' (T ops.size) a' → a'.defers = [] → Q .normal a' w') :
    ∀ (fuel : Nat) (U : List Nat) (listed : Array Bool) (a : Act) (w : World) (ρ : Rho) (hs : Heap), listed.size = ops.size → U.length ≤ fuel → (∀ j, j < ops.size → ¬ Lst listed j → j ∈ U) →
      Inv ops ms T H Lw low N ρ0 h0 w0 (Lst listed) a w ρ hs → wpAny P .any ops Q fuel listed a w := by
  have hfin : ∀ (listed : Array Bool) (a : Act) (w : World) (ρ : Rho) (hs : Heap), (∀ j, j < ops.size → Lst listed j) → Inv ops ms T H Lw low N ρ0 h0 w0 (Lst listed) a w ρ hs → Q .normal a w := by
    intro listed a w ρ hs hall I
    have hh : hs = H ops.size := by
      refine List.ext_getElem? fun b => ?_
      by_cases hb : b < (H ops.size).length
      · exact I.hsv b ops.size (Nat.le_refl _) hb fun i hi _ => ⟨fun _ => hi, fun _ => hall i hi⟩
      · rw [List.getElem?_eq_none (by rw [I.len]; omega), List.getElem?_eq_none (by omega)]
    subst hh
    refine hQ ρ a w I.post ⟨I.tn, fun x v hx => ?_⟩ I.df
    obtain ⟨v', h1, h2⟩ := I.tm x v ops.size (Nat.le_refl _) (fun i o ho _ => by
      have := (Array.getElem?_eq_some_iff.1 ho).1
      exact ⟨fun _ => this, fun _ => hall i this⟩) hx
    exact ⟨v', h1, h2.mono cut_sub⟩
  have hready : ∀ (listed : Array Bool), listed.size = ops.size → Region.ready .any ops listed = [] → ∀ n j, j ≤ n → j < ops.size → Lst listed j := by
    intro listed hsz hnil n
    induction n with
    | zero =>
      intro j hj hlt
      refine Classical.byContradiction fun hl => ?_
      have ho : ops[j]? = some ops[j] := Array.getElem?_eq_getElem hlt
      have : j ∈ Region.ready .any ops listed := mem_ready.2 ⟨by rw [getD_tf (by omega)]; simpa [Lst] using hl, _, ho, fun e he hb => by
        have h1 := C.mask j _ ho
        simp only [maskOK, Bool.and_eq_true, List.all_eq_true, decide_eq_true_eq] at h1
        have := h1.2 e.on (edges_mem.2 ⟨e, he, hb, rfl⟩)
        omega⟩
      rw [hnil] at this; cases this
    | succ n ih =>
      intro j hj hlt
      refine Classical.byContradiction fun hl => ?_
      have ho : ops[j]? = some ops[j] := Array.getElem?_eq_getElem hlt
      have : j ∈ Region.ready .any ops listed := mem_ready.2 ⟨by rw [getD_tf (by omega)]; simpa [Lst] using hl, _, ho, fun e he hb => by
        have h1 := C.mask j _ ho
        simp only [maskOK, Bool.and_eq_true, List.all_eq_true, decide_eq_true_eq] at h1
        have := h1.2 e.on (edges_mem.2 ⟨e, he, hb, rfl⟩)
        exact ih e.on (by omega) (by omega)⟩
      rw [hnil] at this; cases this
  intro fuel
  induction fuel with
  | zero =>
    intro U listed a w ρ hs hsz hU hmem I
    have hall : ∀ j, j < ops.size → Lst listed j := fun j hj => Classical.byContradiction fun hl => by
      have := hmem j hj hl
      have hnil : U = [] := List.length_eq_zero_iff.1 (by omega)
      rw [hnil] at this; cases this
    refine ⟨?_, hfin listed a w ρ hs hall I⟩
    cases hr : Region.ready .any ops listed with
    | nil => rfl
    | cons j r =>
      have hj : j ∈ Region.ready .any ops listed := by rw [hr]; simp
      obtain ⟨h1, o, ho, _⟩ := mem_ready.1 hj
      have hlt : j < ops.size := (Array.getElem?_eq_some_iff.1 ho).1
      have := hall j hlt
      unfold Lst at this
      rw [getD_tf (by omega), this] at h1
      cases h1
  | succ fuel ih =>
    intro U listed a w ρ hs hsz hU hmem I
    refine ⟨fun hnil => hfin listed a w ρ hs (fun j hj => hready listed hsz hnil j j (Nat.le_refl _) hj) I, fun j hj => ?_⟩
    obtain ⟨h1, o, ho, hall⟩ := mem_ready.1 hj
    have hlt : j < ops.size := (Array.getElem?_eq_some_iff.1 ho).1
    have hl : ¬ Lst listed j := by unfold Lst; rw [← getD_tf (by omega), h1]; simp
    refine I.step C hH0 hw0 ho hl (fun e he => ?_) (lst_set (by omega)) fun a' w' ρ' hs' I' => ?_
    · obtain ⟨d, hd, hb, rfl⟩ := edges_mem.1 he
      exact hall d hd hb
    · refine ih (U.erase j) (listed.setIfInBounds j true) a' w' ρ' hs' (by simpa using hsz) ?_ ?_ I'
      · have hm := hmem j hlt hl
        rw [List.length_erase_of_mem hm]
        omega
      · intro i hi hli
        rw [lst_set (by omega)] at hli
        exact (List.mem_erase_of_ne (fun e => hli (.inr e))).2 (hmem i hi fun k => hli (.inl k))

theorem cOps_get {ops : Array Oper} {draw : Bool} : ∀ {os : List Oper} {i : Nat} {ms : List MOper}, cOps P X N ops draw os i = some ms → ms.length = os.length ∧
    ∀ j o, os[j]? = some o → ∃ m, ms[j]? = some m ∧ cOp P X o = some m.op ∧ guardSlot ops o = some m.guard ∧ m.dst = o.dst ∧ dstOK N o = true ∧ m.bar = (if draw then barOK P X ops (masks ops) (i + j) else true) ∧ m.chk = (if draw then chkOf P X ops (masks ops) (i + j) else [])
  | [], i, ms, h => by cases h; exact ⟨rfl, fun j o ho => by simp at ho⟩
  | o :: os, i, ms, h => by
    obtain ⟨m, ms', rfl, h2, h3, h4, h5, h6, h6', h7⟩ := cOps_cons h
    obtain ⟨k1, k2⟩ := cOps_get h7
    refine ⟨by simp [k1], fun j o' ho' => ?_⟩
    cases j with
    | zero => simp at ho'; subst ho'; exact ⟨m, rfl, h2, h3, h4, h5, h6, h6'⟩
    | succ j =>
      obtain ⟨m', a1, a2, a3, a4, a5, a6, a7⟩ := k2 j o' (by simpa using ho')
      exact ⟨m', by simpa using a1, a2, a3, a4, a5, by rw [a6]; rw [show i + 1 + j = i + (j + 1) by omega], by rw [a7]; rw [show i + 1 + j = i + (j + 1) by omega]⟩

theorem birth (H : Nat → Heap) (n : Nat) : ∀ b, b < (H n).length → ∃ k, k ≤ n ∧ b < (H k).length ∧ ∀ k', k' < k → (H k').length ≤ b := by
  induction n with
  | zero => exact fun b hb => ⟨0, Nat.le_refl _, hb, fun k' h => by omega⟩
  | succ n ih =>
    intro b hb
    by_cases h : ∃ k, k ≤ n ∧ b < (H k).length
    · obtain ⟨k, hk, hbk⟩ := h
      have : ∀ m, (∃ k, k ≤ m ∧ b < (H k).length) → ∃ k, k ≤ m ∧ b < (H k).length ∧ ∀ k', k' < k → (H k').length ≤ b := by
        intro m
        induction m with
        | zero => rintro ⟨k, h1, h2⟩; exact ⟨k, h1, h2, fun k' h => by omega⟩
        | succ m ihm =>
          rintro ⟨k, h1, h2⟩
          by_cases hh : ∃ k, k ≤ m ∧ b < (H k).length
          · obtain ⟨k2, h3, h4, h5⟩ := ihm hh
            exact ⟨k2, by omega, h4, h5⟩
          · have : k = m + 1 := Nat.le_antisymm h1 (Nat.lt_of_not_le fun hle => hh ⟨k, hle, h2⟩)
            subst this
            exact ⟨m + 1, Nat.le_refl _, h2, fun k' hk' => Nat.le_of_not_lt fun hlt => hh ⟨k', by omega, hlt⟩⟩
      obtain ⟨k2, h3, h4, h5⟩ := this n ⟨k, hk, hbk⟩
      exact ⟨k2, by omega, h4, h5⟩
    · exact ⟨n + 1, Nat.le_refl _, hb, fun k' hk' => Nat.le_of_not_lt fun hlt => h ⟨k', by omega, hlt⟩⟩

theorem anyOrder (hmix : P.follows .mixedOrders = true) : AnyOrder P X := by
  intro N id ops ms t h l r hc hd htr
  obtain ⟨T, H, V, Lw, e1, e2, e3, e4, hstep⟩ := htr.seq
  obtain ⟨hlen, hget⟩ := cOps_get hc
  have hlen : ms.length = ops.size := by simpa using hlen
  have C : Ctx P X N ops (masks ops) ms T H V Lw r.2.2 := by
    simp only [drawOK, Bool.and_eq_true, List.all_eq_true] at hd
    refine ⟨fun j o ho => ?_, fun j o ho => ?_, ?_⟩
    · obtain ⟨m, h1, h2, h3, h4, h5, h6, h6'⟩ := hget j o (by simpa using ho)
      exact ⟨m, h1, h2, h3, h4, h5, ⟨by simpa using h6, by simpa using h6'⟩, hstep j m h1⟩
    · exact hd.1 (o, j) (by rw [List.mem_zipIdx_iff_getElem?]; simpa using ho)
    · intro i j oi o m d hoi ho hm hne hdst hx
      obtain ⟨mi, h1, h2, h3, h4, _⟩ := hget i oi (by simpa using hoi)
      have := hd.2
      simp only [tmpsOK, List.all_eq_true] at this
      have := this (m, j) (by rw [List.mem_zipIdx_iff_getElem?]; simpa using hm) (mi, i) (by rw [List.mem_zipIdx_iff_getElem?]; simpa using h1)
      rw [h4, hdst] at this
      simpa [hne, hx] using this
  refine ⟨r.2.2, by have := htr.hext.2; omega, fun ρ a w Q hdm hw ht hdf hq => ?_⟩
  refine wp_region_any hmix ?_
  have hw' : WRel ρ h w.drew := hw.same (Nat.le_refl _) fun _ _ => rfl
  have hd0 : Dom ρ (H 0) := by rw [e2]; exact hdm
  have hno : ∀ i, ¬ Lst (Array.replicate ops.size false) i := fun i hi => by
    unfold Lst at hi
    by_cases h : i < ops.size <;> simp [h] at hi
  have hbirth := birth H ops.size
  let kb : Nat → Nat := fun b => if hb : b < (H ops.size).length then Classical.choose (hbirth b hb) else 0
  let hs : Heap := (List.range (H ops.size).length).map fun b => ((H (kb b))[b]?).getD blankO
  have hslen : hs.length = (H ops.size).length := by simp [hs]
  have hsget : ∀ b k, k ≤ ops.size → b < (H k).length → Fits ops ms T H Lw (Lst (Array.replicate ops.size false)) b k → hs[b]? = (H k)[b]? := by
    intro b k hk hb hf
    have hbn : b < (H ops.size).length := Nat.lt_of_lt_of_le hb (C.mono hk (Nat.le_refl _))
    obtain ⟨p1, p2, p3⟩ := Classical.choose_spec (hbirth b hbn)
    have hkb : kb b = Classical.choose (hbirth b hbn) := by simp only [kb]; rw [dif_pos hbn]
    rw [← hkb] at p1 p2 p3
    have : hs[b]? = (H (kb b))[b]? := by
      simp only [hs]
      rw [range_map_get hbn, List.getElem?_eq_getElem p2]; rfl
    rw [this]
    refine (C.const p2 (Nat.le_of_not_lt fun hlt => ?_) hk fun p h1 h2 hwp => hno p ((hf p (by omega) hwp).2 h2)).symm
    have := p3 k hlt; omega
  have hpre : Pre h hs := by
    refine ⟨?_, fun b hb _ => ?_⟩
    · rw [hslen, ← e2]; exact C.mono (Nat.zero_le _) (Nat.le_refl _)
    · rw [hsget b 0 (Nat.zero_le _) (by rw [e2]; exact hb) fun i _ _ => ⟨fun k => absurd k (hno i), fun k => by omega⟩, e2]
  refine any_all C (h0 := h) (w0 := w.drew) (ρ0 := ρ) e2 hw' (fun ρ' a' w' hp ht' hdf' => ?_) ops.size (List.range ops.size) _ a w.drew ρ hs (by simp) (by simp) (fun j hj _ => by simpa using hj) ?_
  · refine hq ρ' a' w' ?_ ?_ hdf'
    · rw [← e4, hlen]; exact hp.drewL
    · rw [← e3, hlen]; exact ht'
  · refine ⟨fun j hj => absurd hj (hno j), fun j o ho hj => absurd hj (hno j), hslen, hsget, ?_, (Post.refl hdm hw' _).extend hpre, ?_, fun i j b _ _ hi => absurd hi (hno i), ?_, ht.size, hdf⟩
    · intro b k g c d s vs rw hk hf hbk hr
      have hb : b < h.length := hdm.lt hr
      have h0k : h.length ≤ (H k).length := by rw [← e2]; exact C.mono (Nat.zero_le _) hk
      rw [cut_self hdm h0k]
      have : (H k)[b]? = h[b]? := by
        rw [← e2]
        exact C.const (by rw [e2]; exact hb) (Nat.zero_le _) hk fun p h1 h2 hwp => hno p ((hf p (by omega) hwp).2 h2)
      rw [this] at hbk
      exact hw'.cells b g c d s vs rw hr hbk
    · intro j hj _ b g h1 h2
      cases hx : ρ b g with
      | none => rfl
      | some x =>
        have := hd0.lt hx
        have := C.mono (i := 0) (k := j) (Nat.zero_le _) (by omega)
        omega
    · intro x v k hk hwr hg
      have hno' : ∀ p o, 0 ≤ p → p < k → ops[p]? = some o → o.dst ≠ some x := fun p o _ h2 hop hd => hno p ((hwr p o hop hd).2 h2)
      have h1 := C.tmp (x := x) (Nat.zero_le k) hk hno'
      rw [hg, e1] at h1
      obtain ⟨v', h2, h3⟩ := ht.at_ x v h1.symm
      refine ⟨v', h2, ?_⟩
      rw [cut_self hd0 (C.mono (Nat.zero_le _) hk)]
      exact h3

end Go.AM
