/- A part of the proof: W5. -/
import Derived.Test.YtfaceobahodhmaaW4
set_option maxHeartbeats 4000000
set_option maxRecDepth 100000
namespace Go.AM
set_option linter.unusedVariables false
set_option linter.unusedSimpArgs false

theorem zos_set {l : List UInt8} (hz : Zos l) (k : Nat) {c : UInt8} (hc : zo c) : Zos (l.set k c) := by
  intro i hi
  rw [List.length_set] at hi
  have := hz i hi
  simp only [List.getD] at this ⊢
  rw [List.getElem?_set]
  split
  · split
    · simpa using hc
    · rename_i h1 h2; omega
  · exact this

theorem setLine_same (w : Wm) (x y way : Int) (c : UInt8) : (setLine w x y way c).W = w.W ∧ (setLine w x y way c).H = w.H ∧ (setLine w x y way c).X = w.X ∧ (setLine w x y way c).Y = w.Y ∧ (setLine w x y way c).Way = w.Way ∧
    (setLine w x y way c).R.length = w.R.length ∧ (setLine w x y way c).D.length = w.D.length := by
  unfold setLine
  split <;> simp

theorem setLine_zos {w : Wm} (hr : Zos w.R) (hd : Zos w.D) (x y way : Int) {c : UInt8} (hc : zo c) : Zos (setLine w x y way c).R ∧ Zos (setLine w x y way c).D := by
  unfold setLine
  split
  · exact ⟨hr, zos_set hd _ hc⟩
  · exact ⟨zos_set hr _ hc, hd⟩

theorem goW_same (w : Wm) (way n : Int) : (goW w way n).W = w.W ∧ (goW w way n).H = w.H ∧ (goW w way n).R = w.R ∧ (goW w way n).D = w.D ∧ (goW w way n).Way = w.Way := by
  unfold goW
  split
  · simp
  · split
    · simp
    · split <;> simp

theorem goW_in {w : Wm} (hW : 0 < w.W) (hH : 0 < w.H) (x1 : 0 ≤ w.X) (x2 : w.X < w.W) (y1 : 0 ≤ w.Y) (y2 : w.Y < w.H) (way n : Int) :
    0 ≤ (goW w way n).X ∧ (goW w way n).X < w.W ∧ 0 ≤ (goW w way n).Y ∧ (goW w way n).Y < w.H := by
  unfold goW
  split
  · exact ⟨x1, x2, Int.emod_nonneg _ (by omega), Int.emod_lt_of_pos _ hH⟩
  · split
    · exact ⟨Int.emod_nonneg _ (by omega), Int.emod_lt_of_pos _ hW, y1, y2⟩
    · split
      · exact ⟨x1, x2, Int.emod_nonneg _ (by omega), Int.emod_lt_of_pos _ hH⟩
      · exact ⟨Int.emod_nonneg _ (by omega), Int.emod_lt_of_pos _ hW, y1, y2⟩

def ones (w : Wm) : Nat := w.R.count 49 + w.D.count 49

theorem ones_go (w : Wm) (way n : Int) : ones (goW w way n) = ones w := by
  unfold ones
  rw [(goW_same w way n).2.2.1, (goW_same w way n).2.2.2.1]

theorem count_eat {l : List UInt8} {k : Nat} (hk : k < l.length) (h : l.getD k 0 = 49) : (l.set k 48).count 49 + 1 = l.count 49 := by
  rw [List.count_set hk]
  have e : l[k] = 49 := by simpa [List.getD, hk] using h
  have hp : 0 < l.count 49 := List.count_pos_iff.2 (e ▸ List.getElem_mem hk)
  rw [if_pos (by simp [e])]
  simp
  omega

theorem ones_eat {w : Wm} (g : w.Grid) {x y way : Int} (h5 : 0 ≤ x) (h6 : x < w.W) (h7 : 0 ≤ y) (h8 : y < w.H) (hh : has w x y way = true) : ones (setLine w x y way 48) + 1 = ones w := by
  have hl := lineAt_range w g way h5 h6 h7 h8
  have gr := g.r
  have gd := g.d
  unfold has at hh
  unfold setLine ones
  by_cases hd : isDown way = true
  · rw [if_pos hd] at hh
    rw [if_pos hd]
    have := count_eat (l := w.D) (k := (lineAt w x y way).toNat) (by omega) (by simpa using hh)
    simp only
    omega
  · rw [if_neg hd] at hh
    rw [if_neg hd]
    have := count_eat (l := w.R) (k := (lineAt w x y way).toNat) (by omega) (by simpa using hh)
    simp only
    omega

theorem bite_good {w : Wm} (g : w.Good) (s : UInt8) : (bite w s).Good := by
  have gg := g.g
  have w1 := gg.w1; have w3 := gg.h1
  have tr := turn_range s
  have a1 := g.a1
  unfold bite
  have hs := setLine_same w w.X w.Y ((w.Way + turn s) % 4) 48
  have hz := setLine_zos g.r g.d w.X w.Y ((w.Way + turn s) % 4) (c := 48) (.inl rfl)
  generalize setLine w w.X w.Y ((w.Way + turn s) % 4) 48 = v at *
  obtain ⟨s1, s2, s3, s4, s5, s6, s7⟩ := hs
  have x1 := g.x1; have x2 := g.x2; have y1 := g.y1; have y2 := g.y2
  have hi := goW_in (w := { v with Way := (w.Way + turn s) % 4 }) (show 0 < v.W by omega) (show 0 < v.H by omega) (show 0 ≤ v.X by omega) (show v.X < v.W by omega) (show 0 ≤ v.Y by omega) (show v.Y < v.H by omega) ((w.Way + turn s) % 4) 1
  have ho := goW_same { v with Way := (w.Way + turn s) % 4 } ((w.Way + turn s) % 4) 1
  generalize goW { v with Way := (w.Way + turn s) % 4 } ((w.Way + turn s) % 4) 1 = u at *
  obtain ⟨o1, o2, o3, o4, o5⟩ := ho
  obtain ⟨i1, i2, i3, i4⟩ := hi
  simp only at o1 o2 o3 o4 o5 i1 i2 i3 i4
  have hm : 0 ≤ (w.Way + turn s) % 4 ∧ (w.Way + turn s) % 4 < 4 := ⟨Int.emod_nonneg _ (by omega), Int.emod_lt_of_pos _ (by omega)⟩
  refine ⟨⟨by rw [o1, s1]; exact gg.w1, by rw [o1, s1]; exact gg.w2, by rw [o2, s2]; exact gg.h1, by rw [o2, s2]; exact gg.h2, by rw [o3, s6, o1, s1, o2, s2]; exact gg.r, by rw [o4, s7, o1, s1, o2, s2]; exact gg.d⟩,
    by rw [o3]; exact hz.1, by rw [o4]; exact hz.2, i1, by rw [o1]; exact i2, i3, by rw [o2]; exact i4, by rw [o5]; omega, by rw [o5]; omega⟩

theorem eatFrom_has {w : Wm} : ∀ {l : List UInt8} {s : UInt8}, eatFrom w l = some s → s ∈ l ∧ has w w.X w.Y ((w.Way + turn s) % 4) = true
  | [], s, h => by cases h
  | c :: l, s, h => by
    rw [eatFrom] at h
    split at h
    · rename_i hc; cases h; exact ⟨by simp, hc⟩
    · obtain ⟨h1, h2⟩ := eatFrom_has h; exact ⟨by simp [h1], h2⟩

theorem bite_ones {w : Wm} (g : w.Good) {l : List UInt8} {s : UInt8} (h : eatFrom w l = some s) : ones (bite w s) + 1 = ones w := by
  unfold bite
  rw [ones_go]
  exact ones_eat g.g g.x1 g.x2 g.y1 g.y2 (eatFrom_has h).2

end Go.AM
