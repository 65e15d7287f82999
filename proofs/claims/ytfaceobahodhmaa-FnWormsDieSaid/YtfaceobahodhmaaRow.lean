/- Worms live as told, eat a line with each step, die where no line is left to them, and fresh ones where they began: for whatever bytes the law FnWormsDie returns true. -/
import Derived.Test.YtfaceobahodhmaaRows
import Derived.Test.YtfaceobahodhmaaW21
import Derived.Test.YtfaceobahodhmaaR1
import Derived.WalkKit
import Derived.ProofKit
import Derived.OpenShut
import Derived.ShutString
import Derived.ChangeOld
import Derived.Below
import Derived.SizedLaws
set_option linter.unusedSimpArgs false
set_option maxHeartbeats 4000000
set_option maxRecDepth 100000
namespace Go.AM
open Go.Proofs

def X0 : Ext := fun f => if f = 57 then some XKind.count else if f = 82 then some XKind.indexByte else none

theorem hasP : Has (prog Try.prog X0) := by
  constructor <;> kernel_rfl

theorem extP : ExtOK Try.prog X0 := by
  intro f k h
  unfold X0 at h
  split at h
  · rename_i e; subst e; cases h
    exact ⟨_, Try.func57, rfl, rfl, rfl, rfl⟩
  · split at h
    · rename_i e; subst e; cases h
      exact ⟨_, Try.func82, rfl, rfl, rfl, rfl⟩
    · cases h

theorem mixP : Try.prog.follows .mixedOrders = true := by kernel_rfl
end Go.AM
namespace Go.Proofs.Ytfaceobahodhmaa.fnWormsDie
open Go.ChangeShapes Go.WideShapes Go.ChangeAt Go.RowKit
set_option linter.unusedVariables false
theorem own : ownKnob Try.prog.godebug = none := by kernel_rfl
theorem laidOut : laidOutB Try.prog = true := by kernel_rfl
set_option maxRecDepth 100000 in
theorem lifted (os : Os) (started : os.Started) (H : Type) (enc : TypeId × Value → H) :
    ReturnsInHanded {} Try.checked os 3 .any (Rows.fnWormsDieSpec.pre6 enc Try.prog Try.f3 Rows.fnWormsDieRow.domain false) (Rows.fnWormsDieSpec.post enc Try.prog Try.f3 false true false false) := by
  refine returnsInHanded_of_change_sized (C := Try.checked) own started (by kernel_rfl) Try.func3
    (ChangeSpec.witness6 (enc := enc) (C := Try.checked) false ⟨#[], #[.slice none 0 0, .slice none 0 0], []⟩ 8 (by kernel_rfl) (by kernel_rfl) (by kernel_rfl) (by kernel_rfl)) ?_
  intro W base args ds gs before hval0 hW hcnd hsz0 _
  have hsz : (DataW.weightsEach Try.prog (Try.f3.params.toList ++ Rows.fnWormsDieSpec.plain.varTypes Try.prog) (ds ++ gs)).all (· ≤ reachBytes) = true := hsz0
  have hval : ∀ (j : Nat) t v, Try.f3.params[j]? = some t → args[j]? = some v → Value.okWide Try.prog W .any base t v := hval0
  have hW' := hW
  obtain ⟨p, q, hA0, hV, rfl, hfz, hnd⟩ := hW
  have hA : DataW.TrodAll enc Try.prog W 0 (fun _ => true) true Try.f3.params.toList args.toList ds p := hA0
  rw [Try.params3] at hA hval hsz
  obtain ⟨v0, vs0, d0, ds0, p0, q0, hargs, rfl, rfl, h0, r0⟩ := trodAll_cons hA
  obtain ⟨v1, vs1, d1, ds1, p1, q1, rfl, rfl, rfl, h1, r1⟩ := trodAll_cons r0
  obtain ⟨rfl, rfl, rfl⟩ := trodAll_nil r1
  obtain rfl : args = #[v0, v1] := by cases args; simp_all
  obtain ⟨rfl, rfl⟩ := trodVars_none hV
  have row : ∀ (v : Value) (d : DataW H) (ps : List MemPlace), Value.okWide Try.prog W .any base 22 v → DataW.Trod enc Try.prog W 0 (fun _ => true) true 22 v d ps → ∃ a len cap zs, v = .slice a len cap ∧ AM.IsRow W a len cap zs ∧ len ≤ 9223372036854775807 := by
    intro v d ps hok ⟨fuel, hf⟩
    obtain ⟨a, len, cap, rfl⟩ := okWide_slice Try.underlying22 hok
    rcases open_ints Try.underlying22 Try.underlying5 (by kernel_rfl) hf with ⟨hcs, _⟩ | ⟨x, l, c, zs, hcs, _, hl, hm, hz, _, hcell, hwz⟩
    · simp [Value.cells] at hcs
      obtain ⟨rfl, rfl, rfl⟩ := hcs
      exact ⟨_, _, _, [], rfl, .inl ⟨rfl, rfl, rfl, rfl⟩, by omega⟩
    · simp [Value.cells] at hcs
      obtain ⟨rfl, rfl, rfl⟩ := hcs
      unfold maxLen at hm
      exact ⟨_, _, _, zs, rfl, .inr ⟨_, rfl, hl, by unfold maxLen; exact hm, by simpa using hz, hcell, hwz⟩, by omega⟩
  obtain ⟨a0, len0, cap0, z0, rfl, w0, y0⟩ := row v0 d0 p0 (hval 0 22 v0 rfl rfl) h0
  obtain ⟨a1, len1, cap1, z1, rfl, w1, y1⟩ := row v1 d1 p1 (hval 1 22 v1 rfl rfl) h1
  have lt0 : ∀ x ∈ p0, x.block < W.heap.size := by obtain ⟨m, hm⟩ := h0; exact DataW.trod_lt m _ _ _ hm
  have lt1 : ∀ x ∈ p1, x.block < W.heap.size := by obtain ⟨m, hm⟩ := h1; exact DataW.trod_lt m _ _ _ hm
  clear hA0 hval0 hsz0 hsz
  refine (AM.two_rows AM.extP AM.mixP w0 w1 y0 y1 (fun h cv mv n m k1 k2 k3 k4 => AM.law_w AM.hasP h cv mv n m k1 k2 k3 k4)).mono fun e W' ⟨he, bel⟩ => ?_
  subst he
  exact ⟨_, rfl, _, _, _, [], _, [], hW', trodAll_mk1 (shut_bool Try.underlying4 _), (trodAll_cons_mk (Below.trod laidOut (by kernel_rfl) (of_decide_eq_true (by kernel_rfl)) h0 bel lt0) (trodAll_cons_mk (Below.trod laidOut (by kernel_rfl) (of_decide_eq_true (by kernel_rfl)) h1 bel lt1) trodAll_mk0)), rfl, bel.frame _, fun h => by cases h⟩
theorem over : Rows.fnWormsDieRow.holds Try.pinned (OpenSpec.ofChange Rows.fnWormsDieSpec) :=
  OpenClaim.holds_of_wide 3 Try.f3 rfl rfl rfl rfl rfl rfl rfl ⟨rfl, rfl, rfl, rfl, rfl⟩ rfl rfl rfl rfl rfl (by kernel_rfl) Try.func3 (by kernel_rfl)
    (of_decide_eq_true (by kernel_rfl)) (by unfold Func.isWrapper; first | (rw [if_pos (by decide +kernel)]; kernel_rfl) | (rw [if_neg (by decide +kernel)]; exact ⟨rfl, rfl⟩))
    (fun os started H enc _ => lifted os started H enc)
theorem proved : Rows.FnWormsDieSaid := over
end Go.Proofs.Ytfaceobahodhmaa.fnWormsDie
namespace Go.Proofs.Ytfaceobahodhmaa

theorem fnWormsDie_holds : Rows.FnWormsDieSaid := fnWormsDie.proved
end Go.Proofs.Ytfaceobahodhmaa
#print axioms Go.Proofs.Ytfaceobahodhmaa.fnWormsDie_holds
