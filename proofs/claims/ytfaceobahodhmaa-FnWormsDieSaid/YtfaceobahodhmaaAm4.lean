/- Simulation of single operations: the concrete operation does what the abstract one does. -/
import Derived.Test.YtfaceobahodhmaaAm3
import Derived.Laws.StructEq
import Derived.Laws.Cells
import Derived.Laws.AppendOwn
import Derived.Laws.BytesString
import Derived.Laws.RangeString
import Derived.Laws.Slices
import Derived.Laws.IdiomStrings
import Derived.Lib.ConvBytes
import Derived.ChangeKeysEq
set_option maxHeartbeats 4000000
set_option maxRecDepth 100000
namespace Go.AM
set_option linter.unusedVariables false
set_option linter.unusedSimpArgs false

def Gives (P : Program) (s : Sem Next) (w : World) (K : Value → World → Prop) : Prop :=
  match s.run P w with
  | .ok (.value v) w' => K v w'
  | .ok .skip w' => K undef w'
  | .ok (.enter f args) w' => Calls P f args w' fun e w'' => ∃ v, e = .returned v ∧ K v w''
  | _ => False

theorem Gives.wp {P : Program} {o : Oper} {a : Act} {w : World} {K : Value → World → Prop} {next : Act → World → Prop} {Q : Exit → Act → World → Prop}
    (hg : Gives P (execOp a.eval o) w K) (hn : ∀ v w', K v w' → next (a.put o.dst v) w') : o.wp P a w next Q := by
  unfold Oper.wp
  unfold Gives at hg
  generalize (execOp a.eval o).run P w = r at *
  cases r with
  | halt x w' => exact hg.elim
  | ok n w' =>
    cases n <;> simp only at hg <;> first
      | exact hn _ _ hg
      | exact hg.elim
      | (refine Calls.mono hg ?_
         rintro e w'' ⟨v, rfl, hk⟩
         exact hn _ _ hk)

theorem Gives.mono {P : Program} {s : Sem Next} {w : World} {K K' : Value → World → Prop} (hg : Gives P s w K) (hn : ∀ v w', K v w' → K' v w') : Gives P s w K' := by
  unfold Gives at *
  split at hg
  · exact hn _ _ hg
  · exact hn _ _ hg
  · exact Calls.mono hg fun e w'' ⟨v, he, hk⟩ => ⟨v, he, hn _ _ hk⟩
  · exact hg.elim

def OpSim (P : Program) (N : Nat) (o : Oper) (t : Tm) (h : Heap) (r : Res) : Prop :=
  ∀ (ρ : Rho) (a : Act) (w : World), Dom ρ h → WRel ρ h w → TRel N ρ t a →
    Gives P (execOp a.eval o) w fun v' w' => ∃ ρ', Post ρ h w ρ' r.2.1 w' r.2.2 ∧ VRel ρ' r.1 v'

theorem OpSim.mk {P : Program} {N : Nat} {o : Oper} {t : Tm} {h : Heap} {r : Res}
    (H : ∀ (ρ : Rho) (a : Act) (w : World), Dom ρ h → WRel ρ h w → TRel N ρ t a →
      ∃ ρ' v' w', (execOp a.eval o).run P w = .ok (.value v') w' ∧ Post ρ h w ρ' r.2.1 w' r.2.2 ∧ VRel ρ' r.1 v') : OpSim P N o t h r := by
  intro ρ a w hd hw ht
  obtain ⟨ρ', v', w', hr, hp, hv⟩ := H ρ a w hd hw ht
  unfold Gives
  rw [hr]
  exact ⟨ρ', hp, hv⟩

theorem OpSim.skip {P : Program} {N : Nat} {o : Oper} {t : Tm} {h h' : Heap} {l : Nat}
    (H : ∀ (ρ : Rho) (a : Act) (w : World), Dom ρ h → WRel ρ h w → TRel N ρ t a →
      ∃ ρ' w', (execOp a.eval o).run P w = .ok .skip w' ∧ Post ρ h w ρ' h' w' l) : OpSim P N o t h (undefV, h', l) := by
  intro ρ a w hd hw ht
  obtain ⟨ρ', w', hr, hp⟩ := H ρ a w hd hw ht
  unfold Gives
  rw [hr]
  exact ⟨ρ', hp, .tuple rfl (fun i x y hx => by simp at hx)⟩

theorem OpSim.pure {P : Program} {N : Nat} {o : Oper} {t : Tm} {h : Heap} {v : Value}
    (H : ∀ (ρ : Rho) (a : Act) (w : World), Dom ρ h → WRel ρ h w → TRel N ρ t a →
      ∃ v', (execOp a.eval o).run P w = .ok (.value v') w ∧ VRel ρ v v') : OpSim P N o t h (v, h, h.length) :=
  .mk fun ρ a w hd hw ht => let ⟨v', hr, hv⟩ := H ρ a w hd hw ht; ⟨ρ, v', w, hr, Post.refl hd hw _, hv⟩

theorem VRel.flat1_rfl {v : Value} (h : flat1 v = true) (ρ : Rho) : VRel ρ v v := by
  cases v with
  | agg cs =>
    simp only [flat1, List.all_eq_true] at h
    exact .agg rfl fun i x y hx hy => by rw [hx] at hy; cases hy; exact VRel.flat0_rfl (h x (memA hx)) ρ
  | func f fs cs =>
    simp only [flat1, Bool.and_eq_true, List.all_eq_true] at h
    exact .func f rfl (fun i x y hx hy => by rw [hx] at hy; cases hy; exact VRel.flat0_rfl (h.1 x (memA hx)) ρ)
      rfl (fun i x y hx hy => by rw [hx] at hy; cases hy; exact VRel.flat0_rfl (h.2 x (memA hx)) ρ)
  | _ => exact VRel.flat0_rfl (by simpa only [flat1] using h) ρ

theorem VRel.flat_rfl {v : Value} (h : flat v = true) (ρ : Rho) : VRel ρ v v := by
  cases v with
  | tuple cs =>
    simp only [flat, List.all_eq_true] at h
    exact .tuple rfl fun i x y hx hy => by rw [hx] at hy; cases hy; exact VRel.flat1_rfl (h x (memA hx)) ρ
  | _ => exact VRel.flat1_rfl (by simpa only [flat] using h) ρ

theorem opd_rel {N : Nat} {ρ : Rho} {t : Tm} {a : Act} (ht : TRel N ρ t a) {x : Operand} {y : Opd} {v : Value} (hx : cOpd x = some y) (hv : ev t y = some v) : VRel ρ v (a.eval x) := by
  cases x with
  | tmp i =>
    simp only [cOpd, Option.some.injEq] at hx; subst hx
    obtain ⟨v', h1, h2⟩ := ht.at_ i v hv
    have : a.eval (.tmp i) = v' := by simp [Act.eval, Array.getD_eq_getD_getElem?, h1]
    rw [this]; exact h2
  | const u =>
    simp only [cOpd] at hx
    split at hx
    · rename_i hf; cases hx; cases hv; exact VRel.flat_rfl hf ρ
    · cases hx
  | func f => cases hx; cases hv; exact VRel.flat_rfl (by simp [flat, flat1]) ρ
  | global g => cases hx

theorem opds_rel {N : Nat} {ρ : Rho} {t : Tm} {a : Act} (ht : TRel N ρ t a) : ∀ {xs : List Operand} {ys : List Opd} {vs : List Value}, cOpds xs = some ys → evs t ys = some vs → VRelL ρ vs (xs.map a.eval)
  | [], ys, vs, hx, hv => by cases hx; cases hv; exact .nil
  | x :: xs, ys, vs, hx, hv => by
    simp only [cOpds, Option.bind_eq_some_iff] at hx
    obtain ⟨y, hy, zs, hzs, h⟩ := hx
    cases h
    simp only [evs, Option.bind_eq_some_iff] at hv
    obtain ⟨v, hv1, us, hus, h⟩ := hv
    cases h
    exact .cons (opd_rel ht hy hv1) (opds_rel ht hzs hus)

theorem opo_rel {N : Nat} {ρ : Rho} {t : Tm} {a : Act} (ht : TRel N ρ t a) {x : Option Operand} {y : Option Opd} {v : Option Value} (hx : cOpo x = some y) (hv : evo t y = some v) :
    (x = none ∧ v = none) ∨ ∃ x' v', x = some x' ∧ v = some v' ∧ VRel ρ v' (a.eval x') := by
  cases x with
  | none => cases hx; cases hv; exact .inl ⟨rfl, rfl⟩
  | some x =>
    simp only [cOpo, Option.map_eq_some_iff] at hx
    obtain ⟨y', h1, rfl⟩ := hx
    simp only [evo, Option.map_eq_some_iff] at hv
    obtain ⟨v', h2, rfl⟩ := hv
    exact .inr ⟨x, v', rfl, rfl, opd_rel ht h1 h2⟩

theorem cellsOf_rel {ρ : Rho} {v v' : Value} (h : VRel ρ v v') : VRelL ρ (cellsOf v) v'.cells.toList := by
  cases h with
  | agg h1 h2 => exact VRelL.ofArr h1 h2
  | _ => exact ⟨by simp [cellsOf, Value.cells], fun i x y hx hy => by
      simp only [cellsOf, Value.cells] at hx hy
      cases i with
      | zero => simp at hx hy; subst hx; subst hy; first | (constructor <;> assumption) | constructor
      | succ i => simp at hx⟩

theorem Post.drewL {ρ ρ' : Rho} {h h' : Heap} {w w' : World} {l : Nat} (p : Post ρ h w.drew ρ' h' w' l) : Post ρ h w ρ' h' w' l :=
  { p with frame := p.frame, own := p.own }

theorem run_storeCells_blk (P : Program) (c o : Nat) (e : TypeId) (fr : Nat × Nat) : ∀ (vs : List Value) (i : Nat) (arr : Array Value) (w : World), w.heap[c]? = some (.cells arr e fr) → o + i + vs.length ≤ arr.size →
    (∀ v ∈ vs, v.oneCell' = true) → (∀ k, k < arr.size → ¬ (fr.1 ≤ k ∧ k < fr.2)) →
    ∃ w' arr', (storeCells ⟨c, o, none⟩ vs i).run P w = .ok () w' ∧ w'.heap[c]? = some (.cells arr' e fr) ∧ arr'.size = arr.size ∧
      (∀ k, arr'[k]? = if o + i ≤ k ∧ k < o + i + vs.length then vs[k - (o + i)]? else arr[k]?) ∧ (∀ k, k ≠ c → w'.heap[k]? = w.heap[k]?) ∧ w'.heap.size = w.heap.size ∧
      w'.os = w.os ∧ w'.tape = w.tape ∧ w'.output = w.output
  | [], i, arr, w, hw, hl, _, _ => ⟨w, arr, by simp [storeCells], hw, rfl, fun k => by rw [if_neg (by simp)], fun _ _ => rfl, rfl, rfl, rfl, rfl⟩
  | v :: rest, i, arr, w, hw, hl, h1, hf => by
    simp only [List.length_cons] at hl
    have hadd : (⟨c, o, none⟩ : Addr).add i = ⟨c, o + i, none⟩ := by unfold Addr.add; split <;> simp_all
    have hcell : w.cell? ⟨c, o + i, none⟩ = some (arr[o + i]'(by omega)) := by rw [World.cell?, hw]; exact Array.getElem?_eq_getElem (show o + i < arr.size by omega)
    have hfr : w.frozen? ⟨c, o + i, none⟩ = false := by
      have := hf (o + i) (by omega)
      simp only [World.frozen?, hw]
      simp only [Bool.and_eq_false_iff, decide_eq_false_iff_not]
      by_cases hx : fr.1 ≤ o + i
      · exact .inr fun hy => this ⟨hx, hy⟩
      · exact .inl hx
    have hclt : c < w.heap.size := (Array.getElem?_eq_some_iff.1 hw).1
    have hheap : (w.setCell ⟨c, o + i, none⟩ v).heap[c]? = some (.cells (arr.setIfInBounds (o + i) v) e fr) := by
      simp [World.setCell, Array.getElem?_modify, hw]
    obtain ⟨w', arr', r1, r2, r3, r4, r5, r6, r7, r8, r9⟩ := run_storeCells_blk P c o e fr rest (i + 1) (arr.setIfInBounds (o + i) v) (w.setCell ⟨c, o + i, none⟩ v) hheap (by simp; omega) (fun x hx => h1 x (by simp [hx])) (by simpa using hf)
    refine ⟨w', arr', ?_, r2, by simpa using r3, ?_, ?_, by simpa [World.setCell] using r6, r7, r8, r9⟩
    · simp only [storeCells, hadd, Sem.run_bind, run_store P w _ v .plain (h1 v (by simp)), hcell, hfr, Bool.false_eq_true, if_false, Result.andThen_ok]
      exact r1
    · intro k
      rw [r4 k]
      by_cases hk : k = o + i
      · subst hk
        rw [if_neg (by omega), if_pos (by simp only [List.length_cons]; omega), Nat.sub_self]
        simp [Array.getElem?_setIfInBounds]
        omega
      · by_cases hin : o + (i + 1) ≤ k ∧ k < o + (i + 1) + rest.length
        · rw [if_pos hin, if_pos (by simp only [List.length_cons]; omega)]
          rw [show k - (o + i) = (k - (o + (i + 1))) + 1 by omega]
          simp
        · rw [if_neg hin, if_neg (by simp only [List.length_cons]; omega)]
          simp [Array.getElem?_setIfInBounds, Ne.symm hk]
    · intro k hk
      rw [r5 k hk]
      exact heap_setCell_other w _ k v hk

theorem isCell_oneCell {v : Value} (h : isCell v = true) : v.oneCell' = true := by cases v <;> simp_all [isCell, Value.oneCell']
theorem isCell_rel {ρ : Rho} {v v' : Value} (h : VRel ρ v v') (hc : isCell v = true) : isCell v' = true := by cases h <;> simp_all [isCell]

theorem look_rel {ρ : Rho} {h : Heap} {w : World} (hw : WRel ρ h w) {b o : Nat} {g : Option Nat} {c d s : Nat} {vs : List Value} {rw : Bool} (hr : ρ b g = some (c, d, s)) (hl : look h ⟨b, o, g⟩ = some (vs, rw)) :
    h[b]? = some (.cells vs g rw) ∧ CellsOK ρ w c d s vs rw := by
  unfold look at hl
  split at hl
  · rename_i vs' g' rw' hb
    split at hl
    · rename_i hg
      cases hl
      simp only at hg hb
      subst hg
      exact ⟨hb, hw.cells b g' c d s vs rw hr hb⟩
    · cases hl
  · cases hl

theorem CellsOK.cell {ρ : Rho} {w : World} {c d s : Nat} {vs : List Value} {rw : Bool} (h : CellsOK ρ w c d s vs rw) {i : Nat} {v : Value} (hi : vs[i]? = some v) : ∃ v', w.cell? ⟨c, d + i, none⟩ = some v' ∧ VRel ρ v v' := by
  obtain ⟨arr, e, fr, h1, _, _, h4, _⟩ := h
  obtain ⟨_, v', k1, k2⟩ := h4 i v hi
  exact ⟨v', by simp [World.cell?, h1, k1], k2⟩

theorem add_off (c o n : Nat) : (⟨c, o, none⟩ : Addr).add n = ⟨c, o + n, none⟩ := by unfold Addr.add; split <;> simp_all

theorem CellsOK.cells {ρ : Rho} {w : World} {c d s : Nat} {vs : List Value} {rw : Bool} (h : CellsOK ρ w c d s vs rw) (o n : Nat) (hn : o + n ≤ vs.length) :
    ∃ us : List Value, us.length = n ∧ VRelL ρ ((vs.drop o).take n) us ∧ (∀ j u, us[j]? = some u → w.cell? ⟨c, d + o + j, none⟩ = some u) ∧ ((vs.drop o).take n).all isCell = true := by
  obtain ⟨arr, e, fr, h1, h2, h3, h4, _⟩ := h
  refine ⟨(arr.toList.drop (d + o)).take n, by simp; omega, ⟨by simp; omega, fun i x y hx hy => ?_⟩, fun j u hu => ?_, ?_⟩
  · rw [List.getElem?_take] at hx hy
    split at hx
    · rename_i hi
      rw [if_pos hi] at hy
      simp only [List.getElem?_drop, Array.getElem?_toList] at hx hy
      obtain ⟨_, v', k1, k2⟩ := h4 _ _ hx
      rw [show d + o + i = d + (o + i) by omega] at hy
      rw [k1] at hy; cases hy
      exact k2
    · cases hx
  · rw [List.getElem?_take] at hu
    split at hu
    · simp only [List.getElem?_drop, Array.getElem?_toList] at hu
      simp [World.cell?, h1, hu]
    · cases hu
  · rw [List.all_eq_true]
    intro x hx
    obtain ⟨i, hi⟩ := List.getElem?_of_mem hx
    rw [List.getElem?_take] at hi
    split at hi
    · rw [List.getElem?_drop] at hi; exact (h4 _ _ hi).1
    · cases hi

end Go.AM
