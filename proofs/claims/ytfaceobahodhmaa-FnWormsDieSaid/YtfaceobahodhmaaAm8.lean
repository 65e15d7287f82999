/- Simulation of single operations, part five: literals, bytes to a string, equality of structs, iterators, counts. -/
import Derived.Test.YtfaceobahodhmaaAm7
import Derived.Laws.Tables
set_option maxHeartbeats 4000000
set_option maxRecDepth 100000
namespace Go.AM
set_option linter.unusedVariables false
set_option linter.unusedSimpArgs false
variable {P : Program} {N : Nat} {o : Oper} {t : Tm} {h : Heap}

theorem fold_splice (off : Nat) : ∀ (l : List Value) (k : Nat) (cs : Array Value), off + k + l.length ≤ cs.size →
    ∀ j, ((l.zipIdx k).foldl (fun cs (c, j) => cs.setIfInBounds (off + j) c) cs)[j]? = if off + k ≤ j ∧ j < off + k + l.length then l[j - (off + k)]? else cs[j]?
  | [], k, cs, _, j => by simp; omega
  | v :: l, k, cs, hl, j => by
    simp only [List.length_cons] at hl
    rw [List.zipIdx_cons, List.foldl_cons]
    rw [fold_splice off l (k + 1) (cs.setIfInBounds (off + k) v) (by simp; omega) j]
    by_cases e : j = off + k
    · subst e
      rw [if_neg (by omega), if_pos (by simp only [List.length_cons]; omega), Nat.sub_self]
      simp [Array.getElem?_setIfInBounds]
      omega
    · by_cases hin : off + (k + 1) ≤ j ∧ j < off + (k + 1) + l.length
      · rw [if_pos hin, if_pos (by simp only [List.length_cons]; omega)]
        rw [show j - (off + k) = (j - (off + (k + 1))) + 1 by omega]
        simp
      · rw [if_neg hin, if_neg (by simp only [List.length_cons]; omega)]
        simp [Array.getElem?_setIfInBounds, Ne.symm e]

theorem fold_size (off : Nat) : ∀ (l : List (Value × Nat)) (cs : Array Value), (l.foldl (fun cs (x : Value × Nat) => cs.setIfInBounds (off + x.2) x.1) cs).size = cs.size
  | [], cs => rfl
  | x :: l, cs => by rw [List.foldl_cons, fold_size off l]; simp

theorem splice_rel {ρ : Rho} {cs : List Value} {arr : Array Value} (hcs : VRelL ρ cs arr.toList) {l : List Value} {u : Array Value} (hl : VRelL ρ l u.toList) (off : Nat) (hoff : off + l.length ≤ cs.length) :
    VRelL ρ (splice cs off l) ((u.toList.zipIdx).foldl (fun cs (c, j) => cs.setIfInBounds (off + j) c) arr).toList := by
  have hsz : ((u.toList.zipIdx).foldl (fun cs (x : Value × Nat) => cs.setIfInBounds (off + x.2) x.1) arr).size = arr.size := fold_size off _ _
  have hcl := hcs.1
  have hll := hl.1
  simp only [Array.length_toList] at hcl hll
  refine ⟨by simp only [splice, List.length_append, List.length_take, List.length_drop, Array.length_toList]; rw [hsz]; omega, fun i x y hx hy => ?_⟩
  rw [Array.getElem?_toList] at hy
  rw [fold_splice off u.toList 0 arr (by simp; omega) i] at hy
  simp only [splice] at hx
  have hto : (cs.take off).length = off := by simp; omega
  by_cases c1 : i < off
  · rw [List.append_assoc, List.getElem?_append_left (by omega), List.getElem?_take, if_pos c1] at hx
    rw [if_neg (by omega)] at hy
    exact hcs.2 i x y hx (by rw [Array.getElem?_toList]; exact hy)
  · by_cases c2 : i < off + l.length
    · rw [List.append_assoc, List.getElem?_append_right (by omega), hto, List.getElem?_append_left (by omega)] at hx
      rw [if_pos (by simp; omega)] at hy
      rw [show i - (off + 0) = i - off by omega] at hy
      exact hl.2 _ x y hx hy
    · rw [List.append_assoc, List.getElem?_append_right (by omega), hto, List.getElem?_append_right (by omega), List.getElem?_drop] at hx
      rw [show off + l.length + (i - off - l.length) = i by omega] at hx
      rw [if_neg (by simp; omega)] at hy
      exact hcs.2 i x y hx (by rw [Array.getElem?_toList]; exact hy)

theorem fill_rel {ρ : Rho} (place : Nat → Option (Nat × Nat)) : ∀ (ps : List (Nat × Nat × Value)) (qs : List (Nat × Value)) (cs : List Value) (arr : Array Value) (r : List Value),
    ps.length = qs.length → (∀ (i : Nat) (p : Nat × Nat × Value) (q : Nat × Value), ps[i]? = some p → qs[i]? = some q → place q.1 = some (p.1, p.2.1) ∧ VRel ρ p.2.2 q.2) → VRelL ρ cs arr.toList → fillL cs ps = some r →
    ∃ arr', Instr.fill place arr qs = some arr' ∧ VRelL ρ r arr'.toList
  | [], qs, cs, arr, r, hl, _, hcs, hf => by
    cases qs with
    | nil => cases hf; exact ⟨arr, rfl, hcs⟩
    | cons q qs => simp at hl
  | (off, size, v) :: ps, qs, cs, arr, r, hl, hpq, hcs, hf => by
    cases qs with
    | nil => simp at hl
    | cons q qs =>
      obtain ⟨i, u⟩ := q
      obtain ⟨hp, hv⟩ := hpq 0 (off, size, v) (i, u) rfl rfl
      simp only at hp hv
      simp only [fillL] at hf
      split at hf
      · rename_i hc
        have hcr := cellsOf_rel hv
        have h1 : u.cells.size = size := by have := hcr.1; simp at this; omega
        have h2 : ¬ (off + u.cells.size > arr.size) := by have := hcs.1; simp at this; omega
        obtain ⟨arr', k1, k2⟩ := fill_rel place ps qs (splice cs off (cellsOf v)) _ r (by simpa using hl) (fun j p q hp hq => hpq (j + 1) p q (by simpa using hp) (by simpa using hq))
          (splice_rel (u := u.cells) hcs hcr off (by omega)) hf
        refine ⟨arr', ?_, k2⟩
        simp only [Instr.fill, hp]
        rw [if_neg (by simp [h1]; omega)]
        rw [← Array.foldl_toList, Array.toList_zipIdx]
        exact k1
      · cases hf

theorem places_run : ∀ (fs : List Field), (fs.all fun f => (P.info? f.type).isSome) = true →
    ∃ ps : List (Nat × Nat), fs.mapM (fun f => (P.info? f.type).map fun i => (f.offset, i.size)) = some ps ∧ ∀ (i : Nat) (f : Field) (inf : TypeInfo), fs[i]? = some f → P.info? f.type = some inf → ps[i]? = some (f.offset, inf.size)
  | [], _ => ⟨[], by simp, fun i f inf hf => by simp at hf⟩
  | f :: fs, hall => by
    simp only [List.all_cons, Bool.and_eq_true] at hall
    obtain ⟨ps, k1, k2⟩ := places_run fs hall.2
    obtain ⟨inf, hinf⟩ := Option.isSome_iff_exists.1 hall.1
    refine ⟨(f.offset, inf.size) :: ps, by simp [List.mapM_cons, hinf, k1], fun i g inf' hg hi => ?_⟩
    cases i with
    | zero => simp at hg; subst hg; rw [hinf] at hi; cases hi; rfl
    | succ i => simpa using k2 i g inf' (by simpa using hg) hi

theorem parts_rel {ρ : Rho} {a : Act} (ht : TRel N ρ t a) (fs : List Field) : ∀ (xs : List (Nat × Operand)) (ys : List (Nat × Nat × Opd)) (vs : List (Nat × Nat × Value)), cParts P fs xs = some ys → evp t ys = some vs →
    vs.length = xs.length ∧ ∀ (i : Nat) (p : Nat × Nat × Value) (q : Nat × Operand), vs[i]? = some p → xs[i]? = some q →
      ∃ f inf, fs[q.1]? = some f ∧ P.info? f.type = some inf ∧ p.1 = f.offset ∧ p.2.1 = inf.size ∧ VRel ρ p.2.2 (a.eval q.2)
  | [], ys, vs, hx, hv => by cases hx; cases hv; exact ⟨rfl, fun i p q hp => by simp at hp⟩
  | (k, x) :: xs, ys, vs, hx, hv => by
    simp only [cParts, Option.bind_eq_some_iff] at hx
    obtain ⟨f, hf, inf, hinf, y, hy, zs, hzs, hx⟩ := hx
    cases hx
    simp only [evp, Option.bind_eq_some_iff] at hv
    obtain ⟨v, hv1, us, hus, hv⟩ := hv
    cases hv
    obtain ⟨k1, k2⟩ := parts_rel ht fs xs zs us hzs hus
    refine ⟨by simp [k1], fun i p q hp hq => ?_⟩
    cases i with
    | zero => simp at hp hq; subst hp; subst hq; exact ⟨f, inf, hf, hinf, rfl, rfl, opd_rel ht hy hv1⟩
    | succ i => exact k2 i p q (by simpa using hp) (by simpa using hq)

theorem sim_build {ty : TypeId} {parts : Array (Nat × Operand)} {fs : Array Field} {ps : List (Nat × Nat × Opd)} {vs : List (Nat × Nat × Value)} {inf : TypeInfo} {z : Value} {cs : List Value} (ho : o.op = .build ty parts)
    (hs : P.underlying ty = some (.struct fs)) (hi : P.info? ty = some inf) (hz : inf.zero = some z) (hf : z.cells.toList.all flat0 = true) (hp : cParts P fs.toList parts.toList = some ps) (hall : (fs.toList.all fun f => (P.info? f.type).isSome) = true)
    (hv : evp t ps = some vs) (hc : fillL z.cells.toList vs = some cs) : OpSim P N o t h (.agg cs.toArray, h, h.length) :=
  .pure fun ρ a w hdm hw ht => by
    obtain ⟨places, q1, q2⟩ := places_run (P := P) fs.toList hall
    obtain ⟨k1, k2⟩ := parts_rel (a := a) ht fs.toList parts.toList ps vs hp hv
    obtain ⟨arr', m1, m2⟩ := fill_rel (ρ := ρ) (places.toArray[·]?) vs (parts.toList.map fun x => (x.1, a.eval x.2)) z.cells.toList z.cells cs (by simpa using k1) (fun i p q hp hq => by
        simp only [List.getElem?_map, Option.map_eq_some_iff] at hq
        obtain ⟨q', hq', rfl⟩ := hq
        obtain ⟨f, inf', r1, r2, r3, r4, r5⟩ := k2 i p q' hp hq'
        refine ⟨?_, r5⟩
        have := q2 q'.1 f inf' r1 r2
        simp only [List.getElem?_toArray]
        rw [this, r3, r4]) (VRelL.flat_rfl hf ρ) hc
    have hb : P.built ty (parts.map fun x => (x.1, a.eval x.2)).toList = some arr' := by
      simp only [Program.built, hi, hs, hz, q1, Array.toList_map]
      exact m1
    refine ⟨.agg arr', ?_, ?_⟩
    · simp only [execOp, ho]
      rw [Sem.run_bind, run_build w ty _ arr' hb]
      simp
    · have := m2.agg
      simpa using this

theorem elems_rel {ρ : Rho} {a : Act} (ht : TRel N ρ t a) (size : Nat) : ∀ (xs : List (Nat × Operand)) (ys : List (Nat × Nat × Opd)) (vs : List (Nat × Nat × Value)), cElems size xs = some ys → evp t ys = some vs →
    vs.length = xs.length ∧ ∀ (i : Nat) (p : Nat × Nat × Value) (q : Nat × Operand), vs[i]? = some p → xs[i]? = some q → p.1 = q.1 * size ∧ p.2.1 = size ∧ VRel ρ p.2.2 (a.eval q.2)
  | [], ys, vs, hx, hv => by cases hx; cases hv; exact ⟨rfl, fun i p q hp => by simp at hp⟩
  | (k, x) :: xs, ys, vs, hx, hv => by
    simp only [cElems, Option.bind_eq_some_iff] at hx
    obtain ⟨y, hy, zs, hzs, hx⟩ := hx
    cases hx
    simp only [evp, Option.bind_eq_some_iff] at hv
    obtain ⟨v, hv1, us, hus, hv⟩ := hv
    cases hv
    obtain ⟨k1, k2⟩ := elems_rel ht size xs zs us hzs hus
    refine ⟨by simp [k1], fun i p q hp hq => ?_⟩
    cases i with
    | zero => simp at hp hq; subst hp; subst hq; exact ⟨rfl, rfl, opd_rel ht hy hv1⟩
    | succ i => exact k2 i p q (by simpa using hp) (by simpa using hq)

theorem fillL_len : ∀ (ps : List (Nat × Nat × Value)) (cs r : List Value), fillL cs ps = some r → r.length = cs.length
  | [], cs, r, h => by cases h; rfl
  | (off, size, v) :: ps, cs, r, h => by
    simp only [fillL] at h
    split at h
    · rename_i hc
      rw [fillL_len ps _ r h]
      simp only [splice, List.length_append, List.length_take, List.length_drop]
      omega
    · cases h

theorem sim_bslice {ty e : TypeId} {len : Nat} {parts : Array (Nat × Operand)} {ps : List (Nat × Nat × Opd)} {vs : List (Nat × Nat × Value)} {inf : TypeInfo} {z : Value} {cs : List Value} (ho : o.op = .buildSlice ty len parts)
    (hs : P.underlying ty = some (.slice e)) (hi : P.info? e = some inf) (hz : inf.zero = some z) (hsz : inf.size ≠ 0) (hbig : ¬ len * inf.size > 2 ^ 24) (hzs : z.cells.size = inf.size) (hf : z.cells.toList.all flat0 = true)
    (hp : cElems inf.size parts.toList = some ps) (hv : evp t ps = some vs) (hc : fillL (List.replicate len z.cells.toList).flatten vs = some cs) (hcells : cs.all isCell = true) :
    OpSim P N o t h (.slice (some ⟨h.length, 0, none⟩) len inf.size, h ++ [.cells cs none true], h.length) :=
  .mk fun ρ a w hdm hw ht => by
    have hrel := zeros_rel ρ z.cells hf (by omega) len
    obtain ⟨k1, k2⟩ := elems_rel (a := a) ht inf.size parts.toList ps vs hp hv
    obtain ⟨arr', m1, m2⟩ := fill_rel (ρ := ρ) (fun i => some (i * inf.size, inf.size)) vs (parts.toList.map fun x => (x.1, a.eval x.2)) _ _ cs (by simpa using k1) (fun i p q hp hq => by
        simp only [List.getElem?_map, Option.map_eq_some_iff] at hq
        obtain ⟨q', hq', rfl⟩ := hq
        obtain ⟨r3, r4, r5⟩ := k2 i p q' hp hq'
        exact ⟨by rw [r3, r4], r5⟩) hrel hc
    obtain ⟨ρ', hpost, hr⟩ := heap_push_post (e := e) hdm hw m2 hcells
    have hlen : arr'.size = len * inf.size := by
      have h5 := m2.1
      rw [fillL_len _ _ _ hc] at h5
      have h6 : ((List.replicate len z.cells.toList).flatten).length = len * inf.size := by simp [hzs]
      rw [h6, Array.length_toList] at h5
      exact h5.symm
    refine ⟨ρ', .slice (some ⟨w.heap.size, 0, none⟩) len len, _, ?_, hpost, ?_⟩
    · simp only [execOp, ho]
      rw [Sem.run_bind]
      have : (Instr.buildSlice ty len (parts.map fun x => (x.1, a.eval x.2))).run P w = .ok (.slice (some ⟨w.heap.size, 0, none⟩) len len) (w.alloc (.cells arr' e)) := by
        have hbig' : ¬ 16777216 < len * inf.size := by omega
        have hrun : ∀ zz : Array Value, zz = (if len * inf.size = 0 then #[] else z.cells) → Instr.fill (fun i => some (i * inf.size, inf.size)) ((Array.range (len * inf.size)).map (fun i => zz[i % zz.size]!)) (parts.map fun x => (x.1, a.eval x.2)).toList = some arr' := by
          intro zz hzz
          rw [Array.toList_map]
          rw [hzs] at m1
          rw [← m1]
          congr 1
          by_cases h0 : len * inf.size = 0
          · rw [h0]; simp [show Array.range 0 = #[] from rfl]
          · rw [hzz, if_neg h0, hzs]
        by_cases h0 : len * inf.size = 0
        · have := hrun #[] (by rw [if_pos h0])
          simp [Instr.buildSlice, run_underlying hs, sizeOf, typeInfo, zeroValue, hi, hz, newRow, hbig', h0] at this ⊢
          simp [this]
        · have := hrun z.cells (by rw [if_neg h0])
          simp [Instr.buildSlice, run_underlying hs, sizeOf, typeInfo, zeroValue, hi, hz, newRow, hbig', h0] at this ⊢
          simp [this]
      rw [this]
      simp
    · rw [hlen] at hr
      have := VRel.sl (ρ := ρ') (o := 0) (n := len) (sz := inf.size) (cap := len) hr (Nat.le_refl _) (by omega)
      simpa using this

end Go.AM
