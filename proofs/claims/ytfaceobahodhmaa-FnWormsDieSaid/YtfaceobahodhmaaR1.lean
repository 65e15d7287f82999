/- From bytes in memory to the machine, and back. -/
import Derived.Test.YtfaceobahodhmaaW20
import Derived.WalkKit
import Derived.ProofKit
import Derived.OpenShut
import Derived.ChangeOld
import Derived.SizedLaws
set_option linter.unusedSimpArgs false
set_option maxHeartbeats 4000000
set_option maxRecDepth 100000
namespace Go.AM
open Go.RowKit
set_option linter.unusedVariables false

def IsRow (w : World) (a : Option Addr) (len cap : Nat) (zs : List Int) : Prop :=
  (a = none ∧ len = 0 ∧ cap = 0 ∧ zs = []) ∨
  ∃ x, a = some x ∧ len ≤ cap ∧ cap ≤ maxLen ∧ zs.length = cap ∧ (∀ i, i < zs.length → w.cell? (x.add i) = some (.int .u8 (zs.getD i 0))) ∧ ∀ n ∈ zs, (Lit.int .u8 n).wf = true

theorem add_block (x : Addr) (i : Nat) : (x.add i).block = x.block := by unfold Addr.add; split <;> rfl
theorem add_off' (x : Addr) (i : Nat) : (x.add i).off = x.off + i := by unfold Addr.add; split <;> simp_all

theorem cell_get {w : World} {a : Addr} {v : Value} (h : w.cell? a = some v) : a.spot = none ∧ ∃ c e f, w.heap[a.block]? = some (.cells c e f) ∧ c[a.off]? = some v := by
  unfold World.cell? at h
  split at h
  · rename_i c e f hb
    split at h
    · cases h
    · rename_i hs
      exact ⟨by simpa using hs, c, e, f, hb, h⟩
  · cases h

theorem u8_of {n : Int} (h : (Lit.int .u8 n).wf = true) : (.int .u8 n : Value) = u8v (UInt8.ofNat n.toNat) := by
  have hn : 0 ≤ n ∧ n < 256 := by
    simp [Lit.wf, IntKind.min, IntKind.max, IntKind.signed, IntKind.bits] at h
    omega
  unfold u8v
  congr 1
  simp
  omega

structure RowAt (w : World) (v cv : Value) (i : Nat) (l : List UInt8) (px : Option (Nat × Nat × Nat)) : Prop where
  none_ : px = none → v = .slice none 0 0 ∧ (∃ a, cv = .slice a 0 0) ∧ l = []
  some_ : ∀ c d s, px = some (c, d, s) → v = .slice (some ⟨i, 0, none⟩) l.length 1 ∧ c < w.heap.size ∧ (∀ ρ, CellsOK ρ w c d s (l.map u8v) false) ∧ ∃ cap, cv = .slice (some ⟨c, d, none⟩) l.length cap ∧ l.length ≤ cap ∧ d + cap ≤ s

theorem row_at {w : World} {a : Option Addr} {len cap : Nat} {zs : List Int} (h : IsRow w a len cap zs) (i : Nat) : ∃ v l px, RowAt w v (.slice a len cap) i l px ∧ l.length = len := by
  rcases h with ⟨rfl, rfl, rfl, rfl⟩ | ⟨x, rfl, hl, hm, hz, hc, hw⟩
  · exact ⟨_, [], none, ⟨fun _ => ⟨rfl, ⟨_, rfl⟩, rfl⟩, fun c d s h => by cases h⟩, rfl⟩
  · by_cases h0 : cap = 0
    · subst h0
      obtain rfl : len = 0 := by omega
      exact ⟨_, [], none, ⟨fun _ => ⟨rfl, ⟨_, rfl⟩, rfl⟩, fun c d s h => by cases h⟩, rfl⟩
    · obtain ⟨hs, arr, e, f, hb, _⟩ := cell_get (hc 0 (by omega))
      rw [add_block] at hb
      have hs : x.spot = none := by simpa [Addr.add] using hs
      have hat : ∀ j, j < cap → arr[x.off + j]? = some (.int .u8 (zs.getD j 0)) := by
        intro j hj
        obtain ⟨_, arr', e', f', hb', hj'⟩ := cell_get (hc j (by omega))
        rw [add_block, hb] at hb'
        cases hb'
        rw [add_off'] at hj'
        exact hj'
      have hsz : x.off + cap ≤ arr.size := by
        have := (Array.getElem?_eq_some_iff.1 (hat (cap - 1) (by omega))).1
        omega
      have hlt : x.block < w.heap.size := (Array.getElem?_eq_some_iff.1 hb).1
      refine ⟨.slice (some ⟨i, 0, none⟩) ((zs.take len).map fun n => UInt8.ofNat n.toNat).length 1, (zs.take len).map fun n => UInt8.ofNat n.toNat, some (x.block, x.off, arr.size), ⟨(fun h => by cases h), fun c d s h => ?_⟩, by simp; omega⟩
      cases h
      refine ⟨rfl, hlt, fun ρ => ⟨arr, e, f, hb, rfl, by simp; omega, fun j v hv => ?_, fun h => by cases h⟩, cap, ?_, by simp; omega, hsz⟩
      · rw [List.getElem?_map, List.getElem?_map, List.getElem?_take] at hv
        split at hv
        · rename_i hj
          have hjz : j < zs.length := by omega
          rw [List.getElem?_eq_getElem hjz] at hv
          simp only [Option.map_some, Option.some.injEq] at hv
          subst hv
          have hmem : zs[j] ∈ zs := List.getElem_mem hjz
          refine ⟨by simp [u8v, isCell], _, hat j (by omega), ?_⟩
          rw [show zs.getD j 0 = zs[j] from by simp [List.getD, hjz], u8_of (hw _ hmem)]
          exact .int _ _
        · simp at hv
      · congr 1
        · rw [← hs]
        · simp; omega

theorem Still.below {w w' : World} {ρ ρ' : Rho} {h h' : Heap} (hd : Dom ρ h) (p : Post ρ h w ρ' h' w' h.length) : Below w.heap.size w w' :=
  ⟨p.os, p.tape, p.output, p.size, fun c hc => p.frame c hc fun ⟨b, g, d, s, hb, hr, _⟩ => by have := hd.lt hr; omega⟩

theorem two_rows {P : Program} {X : Ext} (hX : ExtOK P X) (hmix : P.follows .mixedOrders = true) {f : FuncId} {w : World} {a b : Option Addr} {len cap len' cap' : Nat} {zs zs' : List Int} (ha : IsRow w a len cap zs) (hb : IsRow w b len' cap' zs') (hl : len ≤ 9223372036854775807) (hl' : len' ≤ 9223372036854775807)
    (hlaw : ∀ (h : Heap) (cv mv : Value) (n m : Nat), n ≤ 9223372036854775807 → m ≤ 9223372036854775807 → BytesIn h cv n → BytesIn h mv m → @Wa (prog P X) f [cv, mv] h ⟨FlatK (fun v => v = .bool true) h⟩) :
    Calls P f #[.slice a len cap, .slice b len' cap'] w fun e w' => e = .returned (.bool true) ∧ Below w.heap.size w w' := by
  obtain ⟨v, l, px, r, hlen⟩ := row_at ha 0
  obtain ⟨v', l', px', r', hlen'⟩ := row_at hb 1
  let h : Heap := [.cells (l.map u8v) none false, .cells (l'.map u8v) none false]
  let ρ : Rho := fun b g => if b = 0 ∧ g = none then px else if b = 1 ∧ g = none then px' else none
  have b1 : BytesIn h v len := by
    cases px with
    | none => obtain ⟨k1, _, k2⟩ := r.none_ rfl; exact .inl ⟨k1, by rw [← hlen, k2]; rfl⟩
    | some x => obtain ⟨c, d, s⟩ := x; obtain ⟨k1, _⟩ := r.some_ c d s rfl; exact .inr ⟨0, l, false, k1, rfl, hlen⟩
  have b2 : BytesIn h v' len' := by
    cases px' with
    | none => obtain ⟨k1, _, k2⟩ := r'.none_ rfl; exact .inl ⟨k1, by rw [← hlen', k2]; rfl⟩
    | some x => obtain ⟨c, d, s⟩ := x; obtain ⟨k1, _⟩ := r'.some_ c d s rfl; exact .inr ⟨1, l', false, k1, rfl, hlen'⟩
  obtain ⟨vr, hr, lr, hcall, rfl, rfl, rfl⟩ := hlaw h v v' len len' hl hl' b1 b2
  have hcase : ∀ b g x, ρ b g = some x → (b = 0 ∧ g = none ∧ px = some x) ∨ (b = 1 ∧ g = none ∧ px' = some x) := by
    intro b g x hx
    simp only [ρ] at hx
    split at hx
    · rename_i hc; exact .inl ⟨hc.1, hc.2, hx⟩
    · split at hx
      · rename_i hc; exact .inr ⟨hc.1, hc.2, hx⟩
      · cases hx
  have hdom : Dom ρ h := by
    intro b g x hx
    rcases hcase b g x hx with ⟨rfl, rfl, _⟩ | ⟨rfl, rfl, _⟩
    · exact ⟨_, rfl, gle.none' _⟩
    · exact ⟨_, rfl, gle.none' _⟩
  have hrel : WRel ρ h w := by
    refine ⟨?_, ?_, ?_, ?_⟩
    · intro b g c d s vs rw hx hbb
      rcases hcase b g _ hx with ⟨rfl, rfl, hp⟩ | ⟨rfl, rfl, hp⟩
      · cases hbb; exact (r.some_ c d s hp).2.2.1 ρ
      · cases hbb; exact (r'.some_ c d s hp).2.2.1 ρ
    · intro b c d s st po hx hbb
      rcases hcase b none _ hx with ⟨rfl, _, hp⟩ | ⟨rfl, _, hp⟩
      · cases hbb
      · cases hbb
    · intro b g c d s hx
      rcases hcase b g _ hx with ⟨rfl, rfl, hp⟩ | ⟨rfl, rfl, hp⟩
      · exact (r.some_ c d s hp).2.1
      · exact (r'.some_ c d s hp).2.1
    · intro b g b' g' c d s d' s' rw rw' hx hx' hne hc hc'
      have hf : ∀ b g rw x, ρ b g = some x → curr h b g rw → rw = false := by
        intro b g rw x hx hc
        rcases hc with ⟨vs, hv⟩ | ⟨_, _, st, po, hv⟩
        · rcases hcase b g _ hx with ⟨rfl, rfl, _⟩ | ⟨rfl, rfl, _⟩ <;> (cases hv; rfl)
        · rcases hcase b g _ hx with ⟨rfl, rfl, _⟩ | ⟨rfl, rfl, _⟩ <;> cases hv
      exact ⟨hf b g rw _ hx hc, hf b' g' rw' _ hx' hc'⟩
  have hv1 : VRel ρ v (.slice a len cap) := by
    cases hpx : px with
    | none => obtain ⟨k1, ⟨a', k2⟩, _⟩ := r.none_ hpx; rw [k1, k2]; exact .sl0 _
    | some x =>
      obtain ⟨c, d, s⟩ := x
      obtain ⟨k1, _, _, cap, k2, k3, k4⟩ := r.some_ c d s hpx
      rw [k1, k2]
      exact .sl (b := 0) (o := 0) (g := none) (show ρ 0 none = some (c, d, s) by simp [ρ, hpx]) k3 (by omega)
  have hv2 : VRel ρ v' (.slice b len' cap') := by
    cases hpx : px' with
    | none => obtain ⟨k1, ⟨a', k2⟩, _⟩ := r'.none_ hpx; rw [k1, k2]; exact .sl0 _
    | some x =>
      obtain ⟨c, d, s⟩ := x
      obtain ⟨k1, _, _, cap, k2, k3, k4⟩ := r'.some_ c d s hpx
      rw [k1, k2]
      exact .sl (b := 1) (o := 0) (g := none) (show ρ 1 none = some (c, d, s) by simp [ρ, hpx]) k3 (by omega)
  have hsim := sound hX (anyOrder hmix) f [v, v'] h _ hcall
  refine (hsim.2.2 ρ w _ hdom hrel (.cons hv1 (.cons hv2 .nil))).mono ?_
  rintro e w' ⟨u, rfl, ρ', hp, hu⟩
  cases hu
  exact ⟨rfl, Still.below hdom hp⟩

end Go.AM
