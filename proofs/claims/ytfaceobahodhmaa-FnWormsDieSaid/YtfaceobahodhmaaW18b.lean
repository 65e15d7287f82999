/- The plain law of lives. -/
import Derived.Test.YtfaceobahodhmaaW18
set_option maxHeartbeats 4000000
set_option maxRecDepth 100000
namespace Go.AM
set_option linter.unusedVariables false
set_option linter.unusedSimpArgs false

theorem live_facts {s : List UInt8} : ∀ (n : Nat) (w : Wm), w.Good → ones w ≤ n →
    (live s n w).1.Good ∧ eatFrom (live s n w).1 s = none ∧ (live s n w).2.1.length + ones (live s n w).1 = ones w ∧ (live s n w).2.2.length = (live s n w).2.1.length ∧
    (nodeV w :: (live s n w).2.2).getD (live s n w).2.1.length 0 = nodeV (live s n w).1 ∧ after s (live s n w).2.1.length w = some (live s n w).1
  | 0, w, g, hn => by
    have he : eatFrom w s = none := by
      cases he : eatFrom w s with
      | none => rfl
      | some c => have := bite_ones g he; omega
    exact ⟨g, he, by simp [live], rfl, rfl, rfl⟩
  | n + 1, w, g, hn => by
    simp only [live]
    split
    · rename_i he; exact ⟨g, he, by simp, rfl, rfl, rfl⟩
    · rename_i c he
      have h2 := bite_ones g he
      obtain ⟨a1, a2, a3, a4, a5, a6⟩ := live_facts n (bite w c) (bite_good g c) (by omega)
      refine ⟨a1, a2, ?_, ?_, ?_, ?_⟩
      · simp only [List.length_cons]; omega
      · simp only [List.length_cons, a4]
      · simp only [List.length_cons, List.getD_cons_succ]; exact a5
      · simp only [List.length_cons, after, he]; exact a6

theorem life_facts {w : Wm} (g : w.Good) (s : List UInt8) :
    (lifeOf w s).1.Good ∧ eatFrom (lifeOf w s).1 s = none ∧ (lifeOf w s).2.1.length + ones (lifeOf w s).1 = ones w ∧ (lifeOf w s).2.2.length = (lifeOf w s).2.1.length ∧
    (nodeV w :: (lifeOf w s).2.2).getD (lifeOf w s).2.1.length 0 = nodeV (lifeOf w s).1 ∧ after s (lifeOf w s).2.1.length w = some (lifeOf w s).1 := live_facts (ones w) w g (Nat.le_refl _)

theorem bite_WH (w : Wm) (c : UInt8) : (bite w c).W = w.W ∧ (bite w c).H = w.H := by
  unfold bite
  have h1 := goW_same { setLine w w.X w.Y ((w.Way + turn c) % 4) 48 with Way := (w.Way + turn c) % 4 } ((w.Way + turn c) % 4) 1
  have h2 := setLine_same w w.X w.Y ((w.Way + turn c) % 4) 48
  exact ⟨h1.1.trans h2.1, h1.2.1.trans h2.2.1⟩

theorem live_WH {s : List UInt8} : ∀ (n : Nat) (w : Wm), (live s n w).1.W = w.W ∧ (live s n w).1.H = w.H
  | 0, w => ⟨rfl, rfl⟩
  | n + 1, w => by
    simp only [live]
    split
    · exact ⟨rfl, rfl⟩
    · rename_i c _
      have := live_WH (s := s) n (bite w c)
      have hb := bite_WH w c
      exact ⟨this.1.trans hb.1, this.2.trans hb.2⟩

theorem after_good {s : List UInt8} : ∀ (n : Nat) (w v : Wm), w.Good → after s n w = some v → v.Good
  | 0, w, v, g, h => by simp only [after, Option.some.injEq] at h; subst h; exact g
  | n + 1, w, v, g, h => by
    simp only [after] at h
    split at h
    · cases h
    · exact after_good n _ v (bite_good g _) h

theorem eatLine_some {w : Wm} {s : List UInt8} : (eatLine w s).isSome = ((w.good && isTaste s) && decide (0 < ((if (w.good && isTaste s) = true then ((lifeOf w s).2.1.length : Int) else 0)))) := by
  unfold eatLine
  cases hok : (w.good && isTaste s)
  · simp
  · rw [Bool.and_eq_true] at hok
    have g := good_of hok.1
    simp only [if_true, Bool.true_and, after]
    cases he : eatFrom w s with
    | none => rw [lifeOf_none he]; simp
    | some c => rw [lifeOf_some g he]; simp

theorem eatLine_bite {w e : Wm} {s : List UInt8} (h : eatLine w s = some e) : w.Good ∧ isTaste s = true ∧ ∃ c, eatFrom w s = some c ∧ e = bite w c := by
  unfold eatLine at h
  split at h
  · rename_i hok
    rw [Bool.and_eq_true] at hok
    simp only [after] at h
    cases he : eatFrom w s with
    | none => rw [he] at h; cases h
    | some c => rw [he] at h; cases h; exact ⟨good_of hok.1, hok.2, c, rfl, rfl⟩
  · cases h

theorem wormAfter_step {w a : Wm} {s : List UInt8} {n : Int} (h : wormAfter w s n = some a) (hn : 0 < n) : ∃ e, eatLine w s = some e ∧ e.Good ∧ wormAfter e s (n - 1) = some a := by
  unfold wormAfter at h
  split at h
  · rename_i hc
    obtain ⟨hok, h0, h1⟩ := hc
    have hok' := hok
    rw [Bool.and_eq_true] at hok
    have g := good_of hok.1
    obtain ⟨k, rfl⟩ := Int.eq_ofNat_of_zero_le h0
    cases k with
    | zero => omega
    | succ k =>
      rw [show ((k + 1 : Nat) : Int).toNat = k + 1 from rfl] at h
      simp only [after] at h
      cases he : eatFrom w s with
      | none => rw [he] at h; cases h
      | some c =>
        rw [he] at h
        refine ⟨bite w c, ?_, bite_good g c, ?_⟩
        · unfold eatLine
          rw [if_pos hok']
          simp [after, he]
        · unfold wormAfter
          rw [if_pos ⟨by rw [Wm.good_t (bite_good g c), hok.2]; rfl, by omega, by omega⟩, show (((k + 1 : Nat) : Int) - 1).toNat = k by omega]
          exact h
  · cases h

end Go.AM
