/- A fresh worm dies where it began. -/
import Derived.Test.YtfaceobahodhmaaW17
set_option maxHeartbeats 4000000
set_option maxRecDepth 100000
namespace Go.AM
set_option linter.unusedVariables false
set_option linter.unusedSimpArgs false

def ew (b : Bool) : Nat := if b = true then 0 else 1

def eatenAt (w : Wm) (x y : Int) : Nat := ew (has w x y 0) + ew (has w x y 1) + ew (has w x y 2) + ew (has w x y 3)

def lnX (w : Wm) (x way : Int) : Int := if way = 3 then (x - 1) % w.W else x
def lnY (w : Wm) (y way : Int) : Int := if way = 0 then (y - 1) % w.H else y

theorem lineAt_ln (w : Wm) (x y : Int) {way : Int} (a0 : 0 ≤ way) (a3 : way ≤ 3) : lineAt w x y way = lnY w y way * w.W + lnX w x way := by
  have hc : way = 0 ∨ way = 1 ∨ way = 2 ∨ way = 3 := by omega
  rcases hc with rfl | rfl | rfl | rfl <;> simp [lineAt, lnX, lnY]

theorem node_inj {W x y x' y' : Int} (h1 : 0 ≤ x) (h2 : x < W) (h3 : 0 ≤ x') (h4 : x' < W) (h : y * W + x = y' * W + x') : x = x' ∧ y = y' := by
  have e1 := node_mod (y := y) h1 h2
  have e2 := node_div (y := y) h1 h2
  rw [h, node_mod h3 h4] at e1
  rw [h, node_div h3 h4] at e2
  exact ⟨e1.symm, e2.symm⟩

theorem lnX_in {w : Wm} (hW : 0 < w.W) {x : Int} (x1 : 0 ≤ x) (x2 : x < w.W) (way : Int) : 0 ≤ lnX w x way ∧ lnX w x way < w.W := by
  unfold lnX
  split
  · exact ⟨Int.emod_nonneg _ (by omega), Int.emod_lt_of_pos _ hW⟩
  · exact ⟨x1, x2⟩
theorem lnY_in {w : Wm} (hH : 0 < w.H) {y : Int} (y1 : 0 ≤ y) (y2 : y < w.H) (way : Int) : 0 ≤ lnY w y way ∧ lnY w y way < w.H := by
  unfold lnY
  split
  · exact ⟨Int.emod_nonneg _ (by omega), Int.emod_lt_of_pos _ hH⟩
  · exact ⟨y1, y2⟩

def sameLn (w : Wm) (x y way x' y' way' : Int) : Prop := isDown way = isDown way' ∧ lnX w x way = lnX w x' way' ∧ lnY w y way = lnY w y' way'

instance (w : Wm) (x y way x' y' way' : Int) : Decidable (sameLn w x y way x' y' way') := inferInstanceAs (Decidable (_ ∧ _ ∧ _))

theorem has_set {w : Wm} (g : w.Grid) {x y way x' y' way' : Int} (h5 : 0 ≤ x) (h6 : x < w.W) (h7 : 0 ≤ y) (h8 : y < w.H) (a0 : 0 ≤ way) (a3 : way ≤ 3) (h5' : 0 ≤ x') (h6' : x' < w.W) (h7' : 0 ≤ y') (h8' : y' < w.H) (a0' : 0 ≤ way') (a3' : way' ≤ 3) :
    has (setLine w x y way 48) x' y' way' = if sameLn w x y way x' y' way' then false else has w x' y' way' := by
  have w1 := g.w1; have w3 := g.h1
  have hl := lineAt_range w g way h5 h6 h7 h8
  have hl' := lineAt_range w g way' h5' h6' h7' h8'
  have gr := g.r
  have gd := g.d
  have hss := setLine_same w x y way 48
  have hla : lineAt (setLine w x y way 48) x' y' way' = lineAt w x' y' way' := by unfold lineAt; rw [hss.1, hss.2.1]
  have hx := lnX_in (w := w) (by omega) h5 h6 way
  have hx' := lnX_in (w := w) (by omega) h5' h6' way'
  have key : (lineAt w x y way).toNat = (lineAt w x' y' way').toNat ↔ (lnX w x way = lnX w x' way' ∧ lnY w y way = lnY w y' way') := by
    constructor
    · intro he
      have : lineAt w x y way = lineAt w x' y' way' := by omega
      rw [lineAt_ln w x y a0 a3, lineAt_ln w x' y' a0' a3'] at this
      exact node_inj hx.1 hx.2 hx'.1 hx'.2 this
    · rintro ⟨e1, e2⟩
      rw [lineAt_ln w x y a0 a3, lineAt_ln w x' y' a0' a3', e1, e2]
  unfold has
  rw [hla]
  unfold setLine sameLn
  rcases Bool.eq_false_or_eq_true (isDown way) with hd | hd <;> rcases Bool.eq_false_or_eq_true (isDown way') with hd' | hd' <;> simp only [hd, hd', if_true, if_false, Bool.false_eq_true, Bool.true_eq_false, false_and, true_and]
  · by_cases he : (lineAt w x y way).toNat = (lineAt w x' y' way').toNat
    · rw [if_pos (key.1 he), ← he]
      simp only [List.getD, List.getElem?_set, if_true]
      rw [if_pos (by omega)]
      simp
    · rw [if_neg (fun h => he (key.2 h))]
      simp only [List.getD, List.getElem?_set]
      rw [if_neg he]
      exact congrArg (fun b : Bool => b) (by rfl)
  · by_cases he : (lineAt w x y way).toNat = (lineAt w x' y' way').toNat
    · rw [if_pos (key.1 he), ← he]
      simp only [List.getD, List.getElem?_set, if_true]
      rw [if_pos (by omega)]
      simp
    · rw [if_neg (fun h => he (key.2 h))]
      simp only [List.getD, List.getElem?_set]
      rw [if_neg he]
      exact congrArg (fun b : Bool => b) (by rfl)

def nodeIs (x y x' y' : Int) : Nat := if x = x' ∧ y = y' then 1 else 0

theorem mod_ne {x W : Int} (hW : 3 ≤ W) (x1 : 0 ≤ x) (x2 : x < W) : (x + 1) % W ≠ x ∧ (x - 1) % W ≠ x ∧ (x + 1) % W ≠ (x - 1) % W := by
  have e1 : (x + 1) % W = if x + 1 = W then 0 else x + 1 := by
    split
    · rename_i h; rw [h]; exact Int.emod_self
    · exact Int.emod_eq_of_lt (by omega) (by omega)
  have e2 : (x - 1) % W = if x = 0 then W - 1 else x - 1 := by
    split
    · rename_i h; subst h
      rw [show (0 : Int) - 1 = (W - 1) - W by omega, Int.sub_emod_right]
      exact Int.emod_eq_of_lt (by omega) (by omega)
    · exact Int.emod_eq_of_lt (by omega) (by omega)
  rw [e1, e2]
  split <;> split <;> omega

theorem mod_pred {x v W : Int} (hW : 3 ≤ W) (x1 : 0 ≤ x) (x2 : x < W) (v1 : 0 ≤ v) (v2 : v < W) : (v - 1) % W = x ↔ v = (x + 1) % W := by
  constructor
  · intro h; rw [← h, Int.emod_add_emod, Int.sub_add_cancel, Int.emod_eq_of_lt v1 v2]
  · intro h; rw [h, Int.emod_sub_emod, Int.add_sub_cancel, Int.emod_eq_of_lt x1 x2]
theorem mod_same {x v W : Int} (x1 : 0 ≤ x) (x2 : x < W) (v1 : 0 ≤ v) (v2 : v < W) : (v - 1) % W = (x - 1) % W ↔ v = x := by
  constructor
  · intro h
    have := congrArg (fun z => (z + 1) % W) h
    simp only [Int.emod_add_emod, Int.sub_add_cancel] at this
    rwa [Int.emod_eq_of_lt v1 v2, Int.emod_eq_of_lt x1 x2] at this
  · intro h; rw [h]

theorem eaten_set {w : Wm} (g : w.Grid) {x y way v u : Int} (h5 : 0 ≤ x) (h6 : x < w.W) (h7 : 0 ≤ y) (h8 : y < w.H) (a0 : 0 ≤ way) (a3 : way ≤ 3) (v1 : 0 ≤ v) (v2 : v < w.W) (u1 : 0 ≤ u) (u2 : u < w.H) (hh : has w x y way = true) :
    eatenAt (setLine w x y way 48) v u = eatenAt w v u + nodeIs v u x y + nodeIs v u (bX w x way) (bY w y way) := by
  have w1 := g.w1; have w3 := g.h1
  have hs := fun way' (a0' : 0 ≤ way') (a3' : way' ≤ 3) => has_set g h5 h6 h7 h8 a0 a3 v1 v2 u1 u2 a0' a3'
  have hline : ∀ way', 0 ≤ way' → way' ≤ 3 → sameLn w x y way v u way' → has w v u way' = true := by
    intro way' b0 b3 hsm
    unfold has at hh ⊢
    rw [← hsm.1, show lineAt w v u way' = lineAt w x y way from by rw [lineAt_ln w v u b0 b3, lineAt_ln w x y a0 a3, hsm.2.1, hsm.2.2]]
    exact hh
  have hx := mod_ne w1 h5 h6
  have hy := mod_ne w3 h7 h8
  have e : ∀ way', 0 ≤ way' → way' ≤ 3 → ew (has (setLine w x y way 48) v u way') = ew (has w v u way') + (if sameLn w x y way v u way' then 1 else 0) := by
    intro way' b0 b3
    rw [hs way' b0 b3]
    split
    · rename_i hsm
      rw [hline way' b0 b3 hsm]
      rfl
    · rfl
  unfold eatenAt
  rw [e 0 (by omega) (by omega), e 1 (by omega) (by omega), e 2 (by omega) (by omega), e 3 (by omega) (by omega)]
  have p1 := mod_pred w1 h5 h6 v1 v2
  have p2 := mod_pred w3 h7 h8 u1 u2
  have q1 := mod_same (W := w.W) h5 h6 v1 v2
  have q2 := mod_same (W := w.H) h7 h8 u1 u2
  have r1 := mod_pred w1 v1 v2 h5 h6
  have r2 := mod_pred w3 u1 u2 h7 h8
  have hc : way = 0 ∨ way = 1 ∨ way = 2 ∨ way = 3 := by omega
  unfold nodeIs
  rcases hc with rfl | rfl | rfl | rfl
  all_goals simp only [sameLn, isDown, lnX, lnY, bX, bY, decide_true, decide_false, Bool.or_true, Bool.true_or, Bool.or_false, Bool.false_or, reduceCtorEq, false_and, true_and, if_true, if_false, Int.reduceEq, Bool.false_eq_true, Bool.true_eq_false]
  all_goals clear hs hline e hh
  all_goals generalize ew (has w v u 0) = e0; generalize ew (has w v u 1) = e1; generalize ew (has w v u 2) = e2; generalize ew (has w v u 3) = e3
  · simp only [show (x = v ∧ (y - 1) % w.H = (u - 1) % w.H) = (v = x ∧ u = y) from propext ⟨fun h => ⟨h.1.symm, q2.1 h.2.symm⟩, fun h => ⟨h.1.symm, (q2.2 h.2).symm⟩⟩,
      show (x = v ∧ (y - 1) % w.H = u) = (v = x ∧ u = (y - 1) % w.H) from propext ⟨fun h => ⟨h.1.symm, h.2.symm⟩, fun h => ⟨h.1.symm, h.2.symm⟩⟩]
    omega
  · simp only [show (x = v ∧ y = u) = (v = x ∧ u = y) from propext ⟨fun h => ⟨h.1.symm, h.2.symm⟩, fun h => ⟨h.1.symm, h.2.symm⟩⟩,
      show (x = (v - 1) % w.W ∧ y = u) = (v = (x + 1) % w.W ∧ u = y) from propext ⟨fun h => ⟨p1.1 h.1.symm, h.2.symm⟩, fun h => ⟨(p1.2 h.1).symm, h.2.symm⟩⟩]
    omega
  · simp only [show (x = v ∧ y = u) = (v = x ∧ u = y) from propext ⟨fun h => ⟨h.1.symm, h.2.symm⟩, fun h => ⟨h.1.symm, h.2.symm⟩⟩,
      show (x = v ∧ y = (u - 1) % w.H) = (v = x ∧ u = (y + 1) % w.H) from propext ⟨fun h => ⟨h.1.symm, p2.1 h.2.symm⟩, fun h => ⟨h.1.symm, (p2.2 h.2).symm⟩⟩]
    omega
  · simp only [show ((x - 1) % w.W = v ∧ y = u) = (v = (x - 1) % w.W ∧ u = y) from propext ⟨fun h => ⟨h.1.symm, h.2.symm⟩, fun h => ⟨h.1.symm, h.2.symm⟩⟩,
      show ((x - 1) % w.W = (v - 1) % w.W ∧ y = u) = (v = x ∧ u = y) from propext ⟨fun h => ⟨q1.1 h.1.symm, h.2.symm⟩, fun h => ⟨(q1.2 h.1).symm, h.2.symm⟩⟩]
    omega

def Euler (w0 w : Wm) : Prop := ∀ v u, 0 ≤ v → v < w.W → 0 ≤ u → u < w.H → (eatenAt w v u + nodeIs v u w0.X w0.Y + nodeIs v u w.X w.Y) % 2 = 0

theorem eaten_lines {w w' : Wm} (hW : w'.W = w.W) (hH : w'.H = w.H) (hR : w'.R = w.R) (hD : w'.D = w.D) (v u : Int) : eatenAt w' v u = eatenAt w v u := by
  have : ∀ way, has w' v u way = has w v u way := fun way => by unfold has lineAt; rw [hW, hH, hR, hD]
  unfold eatenAt
  rw [this, this, this, this]

theorem euler_bite {w0 w : Wm} (g : w.Good) {s : List UInt8} {c : UInt8} (he : eatFrom w s = some c) (h : Euler w0 w) : Euler w0 (bite w c) ∧ has (bite w c) (bite w c).X (bite w c).Y (((bite w c).Way + 2) % 4) = false := by
  have gg := g.g
  have tr := turn_range c
  have a1 := g.a1
  have hm : 0 ≤ (w.Way + turn c) % 4 ∧ (w.Way + turn c) % 4 < 4 := ⟨Int.emod_nonneg _ (by omega), Int.emod_lt_of_pos _ (by omega)⟩
  have hb := bite_eq w (by have := gg.w1; omega) c g.a1
  have hhas := (eatFrom_has he).2
  have hss := setLine_same w w.X w.Y ((w.Way + turn c) % 4) 48
  have hbw : (bite w c).W = w.W := by rw [hb]; exact hss.1
  have hbh : (bite w c).H = w.H := by rw [hb]; exact hss.2.1
  have hX : (bite w c).X = bX w w.X ((w.Way + turn c) % 4) := by rw [hb]
  have hY : (bite w c).Y = bY w w.Y ((w.Way + turn c) % 4) := by rw [hb]
  have hway : (bite w c).Way = (w.Way + turn c) % 4 := by rw [hb]
  have hlines : ∀ v u way, has (bite w c) v u way = has (setLine w w.X w.Y ((w.Way + turn c) % 4) 48) v u way := by
    intro v u way
    unfold has lineAt
    rw [hb]
  constructor
  · intro v u v1 v2 u1 u2
    rw [hbw] at v2; rw [hbh] at u2
    have h1 := h v u v1 v2 u1 u2
    have h2 := eaten_set gg g.x1 g.x2 g.y1 g.y2 hm.1 (by omega) v1 v2 u1 u2 hhas
    have h3 : eatenAt (bite w c) v u = eatenAt (setLine w w.X w.Y ((w.Way + turn c) % 4) 48) v u := by
      unfold eatenAt; rw [hlines, hlines, hlines, hlines]
    rw [h3, h2, hX, hY]
    omega
  · have w1 := gg.w1; have w3 := gg.h1
    have x1 := g.x1; have x2 := g.x2; have y1 := g.y1; have y2 := g.y2
    have bx := bX_in (w := w) (by omega) x1 x2 ((w.Way + turn c) % 4)
    have by' := bY_in (w := w) (by omega) y1 y2 ((w.Way + turn c) % 4)
    rw [hlines, hX, hY, hway, has_set gg x1 x2 y1 y2 hm.1 (by omega) bx.1 bx.2 by'.1 by'.2 (by omega) (by omega), if_pos]
    have m1 := mod_back x1 x2
    have m2 := mod_back y1 y2
    have hc : (w.Way + turn c) % 4 = 0 ∨ (w.Way + turn c) % 4 = 1 ∨ (w.Way + turn c) % 4 = 2 ∨ (w.Way + turn c) % 4 = 3 := by omega
    rcases hc with e | e | e | e <;> rw [e] <;> simp [sameLn, isDown, lnX, lnY, bX, bY, m1, m2]

theorem eatFrom_none {w : Wm} : ∀ {l : List UInt8}, eatFrom w l = none → ∀ s ∈ l, has w w.X w.Y ((w.Way + turn s) % 4) = false
  | [], _, s, hs => by cases hs
  | c :: l, h, s, hs => by
    rw [eatFrom] at h
    split at h
    · cases h
    · rename_i hc
      rcases List.mem_cons.1 hs with rfl | hs
      · simpa using hc
      · exact eatFrom_none h s hs

theorem taste_all {s : List UInt8} (h : isTaste s = true) : (76 : UInt8) ∈ s ∧ (78 : UInt8) ∈ s ∧ (82 : UInt8) ∈ s := by
  rcases isTaste_cases h with rfl | rfl | rfl | rfl | rfl | rfl <;> simp

theorem dead_home {w0 w : Wm} (g : w.Good) {s : List UInt8} (hs : isTaste s = true) (hn : eatFrom w s = none) (h : Euler w0 w) (hb : has w w.X w.Y ((w.Way + 2) % 4) = false) : w.X = w0.X ∧ w.Y = w0.Y := by
  have ht := taste_all hs
  have h1 := eatFrom_none hn 76 ht.1
  have h2 := eatFrom_none hn 78 ht.2.1
  have h3 := eatFrom_none hn 82 ht.2.2
  rw [show turn 76 = 3 from rfl] at h1
  rw [show turn 78 = 0 from rfl] at h2
  rw [show turn 82 = 1 from rfl] at h3
  have a1 := g.a1; have a2 := g.a2
  have hall : eatenAt w w.X w.Y = 4 := by
    have hc : w.Way = 0 ∨ w.Way = 1 ∨ w.Way = 2 ∨ w.Way = 3 := by omega
    unfold eatenAt
    rcases hc with e | e | e | e <;> rw [e] at h1 h2 h3 hb <;> simp at h1 h2 h3 hb <;> simp [h1, h2, h3, hb, ew]
  have := h w.X w.Y g.x1 g.x2 g.y1 g.y2
  rw [hall] at this
  unfold nodeIs at this
  by_cases hh : w.X = w0.X ∧ w.Y = w0.Y
  · exact hh
  · rw [if_neg hh, if_pos ⟨rfl, rfl⟩] at this
    omega

theorem live_home {w0 : Wm} {s : List UInt8} (hs : isTaste s = true) : ∀ (n : Nat) (w : Wm), w.Good → Euler w0 w → has w w.X w.Y ((w.Way + 2) % 4) = false → ones w ≤ n → (live s n w).1.X = w0.X ∧ (live s n w).1.Y = w0.Y
  | 0, w, g, h, hb, hn => by
    have : eatFrom w s = none := by
      cases he : eatFrom w s with
      | none => rfl
      | some c => have := bite_ones g he; omega
    exact dead_home g hs this h hb
  | n + 1, w, g, h, hb, hn => by
    simp only [live]
    split
    · rename_i he; exact dead_home g hs he h hb
    · rename_i c he
      have h1 := euler_bite g he h
      have h2 := bite_ones g he
      exact live_home hs n (bite w c) (bite_good g c) h1.1 h1.2 (by omega)

theorem fresh_home {w : Wm} (g : w.Good) {s : List UInt8} (hs : isTaste s = true) (hf : (ones w : Int) = 2 * w.W * w.H) : (lifeOf w s).1.X = w.X ∧ (lifeOf w s).1.Y = w.Y := by
  have gr := g.g.r
  have gd := g.g.d
  have c1 : w.R.count 49 ≤ w.R.length := List.count_le_length
  have c2 : w.D.count 49 ≤ w.D.length := List.count_le_length
  have e : 2 * w.W * w.H = w.W * w.H + w.W * w.H := by rw [Int.mul_assoc]; omega
  unfold ones at hf
  have r1 : w.R.count 49 = w.R.length := by omega
  have d1 : w.D.count 49 = w.D.length := by omega
  have hr : ∀ k, k < w.R.length → w.R.getD k 0 = 49 := fun k hk => by
    have := (List.count_eq_length.1 r1) w.R[k] (List.getElem_mem hk)
    simp [List.getD, hk, ← this]
  have hd : ∀ k, k < w.D.length → w.D.getD k 0 = 49 := fun k hk => by
    have := (List.count_eq_length.1 d1) w.D[k] (List.getElem_mem hk)
    simp [List.getD, hk, ← this]
  have hall : ∀ v u way, 0 ≤ v → v < w.W → 0 ≤ u → u < w.H → has w v u way = true := by
    intro v u way v1 v2 u1 u2
    have hl := lineAt_range w g.g way v1 v2 u1 u2
    unfold has
    split
    · rw [hd _ (by omega)]; rfl
    · rw [hr _ (by omega)]; rfl
  have heu : Euler w w := by
    intro v u v1 v2 u1 u2
    have : eatenAt w v u = 0 := by unfold eatenAt; rw [hall _ _ _ v1 v2 u1 u2, hall _ _ _ v1 v2 u1 u2, hall _ _ _ v1 v2 u1 u2, hall _ _ _ v1 v2 u1 u2]; rfl
    omega
  cases he : eatFrom w s with
  | none => rw [lifeOf_none he]; exact ⟨rfl, rfl⟩
  | some c =>
    rw [lifeOf_some g he]
    have h1 := euler_bite g he heu
    exact live_home hs (ones (bite w c)) (bite w c) (bite_good g c) h1.1 h1.2 (Nat.le_refl _)

end Go.AM
