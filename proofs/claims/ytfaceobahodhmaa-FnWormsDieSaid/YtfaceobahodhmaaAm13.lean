/- Soundness of the machine. -/
import Derived.Test.YtfaceobahodhmaaAm12
import Derived.LoopN
set_option maxHeartbeats 4000000
set_option maxRecDepth 100000
namespace Go.AM
set_option linter.unusedVariables false
set_option linter.unusedSimpArgs false
variable {P : Program} {X : Ext}

def LoopSim (P : Program) (N : Nat) (body : Code) (t : Tm) (h : Heap) (l : Nat) (r : ExR) : Prop :=
  ∃ l1 n, r.2.2.2 = min l l1 ∧ ∀ (ρ : Rho) (a : Act) (w : World) (Q : Exit → Act → World → Prop), Dom ρ h → WRel ρ h w → TRel N ρ t a → a.defers = [] →
    (∀ ρ' a' w', Post ρ h w ρ' r.2.2.1 w' l1 → TRel N ρ' r.2.1 a' → a'.defers = [] → Q (exitC r.1) a' w') → Code.rounds P body Q n a w

theorem argT_at : ∀ (vs : List Value) (k i : Nat) (v : Value), gt (argT k vs) i = some v → k ≤ i ∧ vs[i - k]? = some v
  | [], k, i, v, h => by simp [argT, gt] at h
  | x :: vs, k, i, v, h => by
    simp only [argT, gt] at h
    split at h
    · rename_i e; subst e; cases h; simp
    · obtain ⟨h1, h2⟩ := argT_at vs (k + 1) i v h
      refine ⟨by omega, ?_⟩
      rw [show i - k = (i - (k + 1)) + 1 by omega]
      simpa using h2

theorem loadA_rel {ρ : Rho} {h : Heap} {w : World} (hw : WRel ρ h w) {ty : TypeId} {n : Option Nat} {av v : Value} {av' : Value} (hn : aggN P ty = some n) (ha : VRel ρ av av') (hl : loadA h n av = some v) :
    ∃ v', (do loadVar ty (← asAddr av') : Sem Value).run P w = .ok v' w ∧ VRel ρ v v' := by
  obtain ⟨d, i, hd, hi, hcase⟩ := aggN_spec hn
  unfold loadA at hl
  split at hl
  · simp only [Option.bind_eq_some_iff] at hl
    obtain ⟨⟨vs, rw⟩, hlk, hl⟩ := hl
    cases ha with
    | ptr hr =>
      obtain ⟨hb, hok⟩ := look_rel hw hr hlk
      rcases hcase with ⟨rfl, hk⟩ | ⟨rfl, hk⟩
      · simp only at hl
        obtain ⟨v', k1, k2⟩ := hok.cell hl
        have hagg : (isAgg ty).run P w = .ok false w := by
          simp only [isAgg, Sem.run_bind, run_underlying hd, Result.andThen_ok]
          cases d <;> simp_all [isAggD]
        exact ⟨v', by simp [asAddr, loadVar, hagg, k1], k2⟩
      · simp only at hl
        split at hl
        · rename_i hle
          cases hl
          obtain ⟨us, k1, k2, k3, _⟩ := hok.cells _ i.size hle
          have hagg : (isAgg ty).run P w = .ok true w := by
            simp only [isAgg, Sem.run_bind, run_underlying hd, Result.andThen_ok]
            cases d <;> simp_all [isAggD]
          have hload := run_loadCells_list (P := P) w ⟨_, _, none⟩ us (fun j u hj => by rw [add_off]; exact k3 j u hj)
          rw [k1] at hload
          exact ⟨.agg us.toArray, by simp [asAddr, loadVar, hagg, sizeOf, typeInfo, hi, hload], k2.agg⟩
        · cases hl
  · cases hl

def resSem (tmps : Array Value) : ResultVar → Sem Value
  | .tmp t => Pure.pure (tmps.getD t undef)
  | .cell a t => do loadVar t (← asAddr (tmps.getD a undef))

theorem ares_rel {N : Nat} {ρ : Rho} {t : Tm} {a : Act} {h : Heap} {w : World} (ht : TRel N ρ t a) (hw : WRel ρ h w) : ∀ (rs : List ResultVar) (ms : List MRes) (vs : List Value), cRes P rs = some ms → ares t h ms = some vs →
    ∃ us : List Value, (rs.mapM (resSem a.tmps)).run P w = .ok us w ∧ VRelL ρ vs us
  | [], ms, vs, hc, hv => by cases hc; cases hv; exact ⟨[], by simp, .nil⟩
  | .tmp i :: rs, ms, vs, hc, hv => by
    simp only [cRes, Option.map_eq_some_iff] at hc
    obtain ⟨ms', h1, rfl⟩ := hc
    simp only [ares, Option.bind_eq_some_iff] at hv
    obtain ⟨v, h2, vs', h3, hv⟩ := hv
    cases hv
    obtain ⟨us, k1, k2⟩ := ares_rel ht hw rs ms' vs' h1 h3
    obtain ⟨v', m1, m2⟩ := ht.at_ i v h2
    refine ⟨v' :: us, ?_, .cons m2 k2⟩
    have : a.tmps.getD i undef = v' := by simp [Array.getD_eq_getD_getElem?, m1]
    simp [List.mapM_cons, resSem, this, k1]
  | .cell i ty :: rs, ms, vs, hc, hv => by
    simp only [cRes, Option.bind_eq_some_iff, Option.map_eq_some_iff] at hc
    obtain ⟨n, h0, ms', h1, rfl⟩ := hc
    simp only [ares, Option.bind_eq_some_iff] at hv
    obtain ⟨av, h2, v, h4, vs', h3, hv⟩ := hv
    cases hv
    obtain ⟨us, k1, k2⟩ := ares_rel ht hw rs ms' vs' h1 h3
    obtain ⟨av', m1, m2⟩ := ht.at_ i av h2
    have : a.tmps.getD i undef = av' := by simp [Array.getD_eq_getD_getElem?, m1]
    obtain ⟨v', n1, n2⟩ := loadA_rel hw h0 m2 h4
    refine ⟨v' :: us, ?_, .cons n2 k2⟩
    have hr : (resSem a.tmps (.cell i ty)).run P w = .ok v' w := by simp only [resSem, this]; exact n1
    simp [List.mapM_cons, hr, k1]

theorem results_rel {N : Nat} {ρ : Rho} {t : Tm} {a : Act} {h : Heap} {w : World} {fn : Func} {ms : List MRes} {vs : List Value} (ht : TRel N ρ t a) (hw : WRel ρ h w) (hc : cRes P fn.results.toList = some ms) (hv : ares t h ms = some vs) :
    ∃ v', (results fn a.tmps).run P w = .ok v' w ∧ VRel ρ (oneOr vs) v' := by
  obtain ⟨us, k1, k2⟩ := ares_rel ht hw _ _ _ hc hv
  have hres : results fn a.tmps = (fn.results.mapM (resSem a.tmps) >>= fun vs => Pure.pure (if h : vs.size = 1 then vs[0] else .tuple vs)) := by
    unfold results
    congr 1
  refine ⟨if h : us.length = 1 then us[0] else .tuple us.toArray, ?_, ?_⟩
  · rw [hres, Array.mapM_eq_mapM_toList]
    simp only [Sem.run_bind, Sem.run_map, k1, Result.andThen_ok, Sem.run_pure]
    congr 1
  · cases vs with
    | nil => rw [k2.nil_inv]; simpa [oneOr] using VRelL.tuple (VRelL.nil (ρ := ρ))
    | cons v vs =>
      obtain ⟨u, us', rfl, r1, r2⟩ := k2.cons_inv
      cases vs with
      | nil => rw [r2.nil_inv]; simpa [oneOr] using r1
      | cons v2 vs =>
        have hl : ¬ ((u :: us').length = 1) := by have := r2.1; simp at this ⊢; intro hh; rw [hh] at this; simp at this
        rw [dif_neg hl]
        exact (VRelL.cons r1 r2).tuple

theorem CodeSim.of (N : Nat) {code : Code} {t t' : Tm} {h h' : Heap} {l l1 l' : Nat} {e : Ex} (hl : l' = min l l1)
    (H : ∀ (ρ : Rho) (a : Act) (w : World) (Q : Exit → Act → World → Prop), Dom ρ h → WRel ρ h w → TRel N ρ t a → a.defers = [] →
      (∀ ρ' a' w', Post ρ h w ρ' h' w' l1 → TRel N ρ' t' a' → a'.defers = [] → Q (exitC e) a' w') → code.wp P Q a w) : CodeSim P N code t h l (e, t', h', l') := ⟨l1, hl, H⟩

theorem exit_then (e : Ex) (next : Act → World → Prop) (Q : Exit → Act → World → Prop) (a : Act) (w : World) (h1 : e = .n → next a w) (h2 : e ≠ .n → Q (exitC e) a w) : Exit.then next Q (exitC e) a w := by
  cases e with
  | n => exact h1 rfl
  | x i => exact h2 (by simp)
  | r => exact h2 (by simp)

theorem min_low (a b : Nat) : min a b = a ∨ min a b = b := by omega

end Go.AM
