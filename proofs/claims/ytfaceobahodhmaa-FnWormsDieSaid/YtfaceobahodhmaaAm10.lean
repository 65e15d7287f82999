/- Each compiled operation that calls nothing is simulated. -/
import Derived.Test.YtfaceobahodhmaaAm9
set_option maxHeartbeats 4000000
set_option maxRecDepth 100000
namespace Go.AM
set_option linter.unusedVariables false
set_option linter.unusedSimpArgs false
variable {P : Program} {N : Nat} {o : Oper} {t : Tm} {h : Heap}

theorem structFields_spec {ty : TypeId} {fs : List Field} (hs : structFields P ty = some fs) : ∃ fa : Array Field, P.underlying ty = some (.struct fa) ∧ fa.toList = fs := by
  unfold structFields at hs
  split at hs
  · rename_i fa h1; cases hs; exact ⟨fa, h1, rfl⟩
  · cases hs

theorem sliceElem_spec {ty e : TypeId} (hs : sliceElem P ty = some e) : P.underlying ty = some (.slice e) := by
  unfold sliceElem at hs
  split at hs
  · cases hs; assumption
  · cases hs

theorem aggN_spec {ty : TypeId} {n : Option Nat} (hn : aggN P ty = some n) : ∃ d i, P.underlying ty = some d ∧ P.info? ty = some i ∧
    ((n = none ∧ isAggD d = false) ∨ (n = some i.size ∧ isAggD d = true)) := by
  unfold aggN at hn
  split at hn
  · cases hn
  · rename_i d hd
    simp only [Option.bind_eq_some_iff] at hn
    obtain ⟨i, hi, hn⟩ := hn
    refine ⟨d, i, hd, hi, ?_⟩
    cases d <;> simp_all [isAggD]

theorem fieldAt_spec {fa : Array Field} {n : Nat} {f : Field} (hf : fa.toList[n]? = some f) : fa[n]? = some f := by rwa [Array.getElem?_toList] at hf

set_option maxHeartbeats 1000000 in
theorem sim_aop {X : Ext} (hX : ExtOK P X) {m : MOp} {r : Res} (hc : cOp P X o = some m) (hr : aop t h m = some r) : OpSim P N o t h r := by
  cases hop : o.op with
  | move x =>
    simp only [cOp, hop, Option.map_eq_some_iff] at hc
    obtain ⟨y, hy, rfl⟩ := hc
    simp only [aop, Option.bind_eq_some_iff] at hr
    obtain ⟨v, hv, hr⟩ := hr
    cases hr
    exact sim_mv (.inl hop) hy hv
  | assign x =>
    simp only [cOp, hop, Option.map_eq_some_iff] at hc
    obtain ⟨y, hy, rfl⟩ := hc
    simp only [aop, Option.bind_eq_some_iff] at hr
    obtain ⟨v, hv, hr⟩ := hr
    cases hr
    exact sim_mv (.inr hop) hy hv
  | pick c a b =>
    simp only [cOp, hop, Option.bind_eq_some_iff] at hc
    obtain ⟨c', hc', a', ha', b', hb', hc⟩ := hc
    cases hc
    simp only [aop, Option.bind_eq_some_iff] at hr
    obtain ⟨vc, h1, va, h2, vb, h3, hr⟩ := hr
    split at hr
    · cases hr; exact sim_pick hop hc' ha' hb' h1 h2 h3
    · cases hr
  | alloc e =>
    simp only [cOp, hop, Option.bind_eq_some_iff] at hc
    obtain ⟨i, hi, z, hz, hc⟩ := hc
    split at hc
    · rename_i hf
      cases hc
      cases hr
      exact sim_new hop hi hz hf
    · cases hc
  | box e x =>
    simp only [cOp, hop, Option.map_eq_some_iff] at hc
    obtain ⟨y, hy, rfl⟩ := hc
    simp only [aop, Option.bind_eq_some_iff] at hr
    obtain ⟨v, hv, hr⟩ := hr
    split at hr
    · rename_i hcs; cases hr; exact sim_box hop hy hv hcs
    · cases hr
  | build ty parts =>
    simp only [cOp, hop, Option.bind_eq_some_iff] at hc
    obtain ⟨fs, hfs, i, hi, z, hz, hc⟩ := hc
    split at hc
    · rename_i hf
      simp only [Option.bind_eq_some_iff] at hc
      obtain ⟨ps, hps, hc⟩ := hc
      split at hc
      · rename_i hall
        cases hc
        simp only [aop, Option.bind_eq_some_iff] at hr
        obtain ⟨vs, hvs, cs, hcs, hr⟩ := hr
        cases hr
        obtain ⟨fa, hfa, rfl⟩ := structFields_spec hfs
        exact sim_build hop hfa hi hz hf hps hall hvs hcs
      · cases hc
    · cases hc
  | buildSlice ty len parts =>
    simp only [cOp, hop, Option.bind_eq_some_iff] at hc
    obtain ⟨e, he, i, hi, z, hz, hc⟩ := hc
    split at hc
    · cases hc
    · rename_i hcond
      simp only [not_or, Classical.not_not] at hcond
      obtain ⟨c1, c2, c3, c4⟩ := hcond
      simp only [Option.bind_eq_some_iff] at hc
      obtain ⟨ps, hps, hc⟩ := hc
      cases hc
      simp only [aop, Option.bind_eq_some_iff] at hr
      obtain ⟨vs, hvs, cs, hcs, hr⟩ := hr
      split at hr
      · cases hr
      · rename_i hcells
        cases hr
        exact sim_bslice hop (sliceElem_spec he) hi hz c1 c2 c3 c4 hps hvs hcs (by simpa using hcells)
  | load ty x =>
    simp only [cOp, hop, Option.bind_eq_some_iff, Option.map_eq_some_iff] at hc
    obtain ⟨n, hn, y, hy, rfl⟩ := hc
    obtain ⟨d, i, hd, hi, hcase⟩ := aggN_spec hn
    simp only [aop, Option.bind_eq_some_iff] at hr
    obtain ⟨v, hv, hr⟩ := hr
    split at hr
    · simp only [Option.bind_eq_some_iff] at hr
      obtain ⟨⟨vs, rw⟩, hl, hr⟩ := hr
      rcases hcase with ⟨rfl, hk⟩ | ⟨rfl, hk⟩
      · simp only [Option.bind_eq_some_iff] at hr
        obtain ⟨u, hu, hr⟩ := hr
        cases hr
        exact sim_load1 hop hd hk hy hv hl hu
      · simp only at hr
        split at hr
        · rename_i hle
          cases hr
          exact sim_loadN hop hd hi hk hy hv hl hle
        · cases hr
    · cases hr
  | store ty x z =>
    simp only [cOp, hop, Option.bind_eq_some_iff] at hc
    obtain ⟨i, hi, x', hx', z', hz', hc⟩ := hc
    cases hc
    simp only [aop, Option.bind_eq_some_iff] at hr
    obtain ⟨v1, h1, v2, h2, hr⟩ := hr
    split at hr
    · simp only [Option.bind_eq_some_iff] at hr
      obtain ⟨⟨vs, rw⟩, hl, hr⟩ := hr
      simp only at hr
      split at hr
      · rename_i hcond
        obtain ⟨rfl, c1, c2, c3⟩ := hcond
        cases hr
        exact sim_store hop hi hx' hz' h1 h2 hl c1 c2 c3
      · cases hr
    · cases hr
  | nilCheck x =>
    simp only [cOp, hop, Option.map_eq_some_iff] at hc
    obtain ⟨y, hy, rfl⟩ := hc
    simp only [aop, Option.bind_eq_some_iff] at hr
    obtain ⟨v, hv, hr⟩ := hr
    split at hr
    · cases hr; exact sim_nilck_ptr hop hy hv
    · cases hr; exact sim_nilck_func hop hy hv
    · cases hr
  | binOp op ty x z ty' =>
    simp only [cOp, hop, Option.bind_eq_some_iff] at hc
    obtain ⟨x', hx', z', hz', hc⟩ := hc
    split at hc
    · rename_i hty
      split at hc
      · cases hc
        simp only [aop, Option.bind_eq_some_iff] at hr
        obtain ⟨v1, h1, v2, h2, hr⟩ := hr
        split at hr
        · cases hr; exact sim_eqb (neg := false) (by simpa using hop) hty hx' hz' h1 h2
        · cases hr
      · cases hc
        simp only [aop, Option.bind_eq_some_iff] at hr
        obtain ⟨v1, h1, v2, h2, hr⟩ := hr
        split at hr
        · cases hr; exact sim_eqb (neg := true) (by simpa using hop) hty hx' hz' h1 h2
        · cases hr
      · cases hc
    · rename_i fs hty
      simp only [Option.bind_eq_some_iff] at hc
      obtain ⟨ks, hks, hc⟩ := hc
      split at hc
      · cases hc
      · rename_i hg
        have hg' : P.eqGuardType P.depth ty = false := by simpa using hg
        split at hc
        · cases hc
          simp only [aop, Option.bind_eq_some_iff] at hr
          obtain ⟨v1, h1, v2, h2, hr⟩ := hr
          split at hr
          · simp only [Option.bind_eq_some_iff] at hr
            obtain ⟨b, hb, hr⟩ := hr
            cases hr
            exact sim_eqs (neg := false) (by simpa using hop) hty hks hg' hx' hz' h1 h2 hb
          · cases hr
        · cases hc
          simp only [aop, Option.bind_eq_some_iff] at hr
          obtain ⟨v1, h1, v2, h2, hr⟩ := hr
          split at hr
          · simp only [Option.bind_eq_some_iff] at hr
            obtain ⟨b, hb, hr⟩ := hr
            cases hr
            exact sim_eqs (neg := true) (by simpa using hop) hty hks hg' hx' hz' h1 h2 hb
          · cases hr
        · cases hc
    · cases hc
      simp only [aop, Option.bind_eq_some_iff] at hr
      obtain ⟨v1, h1, v2, h2, v, hb, hr⟩ := hr
      cases hr
      exact sim_bin hop hx' hz' h1 h2 hb
  | unOp op ty x =>
    simp only [cOp, hop, Option.map_eq_some_iff] at hc
    obtain ⟨y, hy, rfl⟩ := hc
    simp only [aop, Option.bind_eq_some_iff] at hr
    obtain ⟨v1, h1, v, hb, hr⟩ := hr
    cases hr
    exact sim_un hop hy h1 hb
  | convert src dst x =>
    simp only [cOp, hop, Option.bind_eq_some_iff] at hc
    obtain ⟨y, hy, hc⟩ := hc
    split at hc
    · rename_i hs hd
      cases hc
      simp only [aop, Option.bind_eq_some_iff] at hr
      obtain ⟨v, hv, hr⟩ := hr
      split at hr
      · cases hr; exact sim_conv hop hs hd hy hv
      · cases hr
    · rename_i hs hd
      cases hc
      simp only [aop, Option.bind_eq_some_iff] at hr
      obtain ⟨v, hv, hr⟩ := hr
      split at hr
      · cases hr; exact sim_convs hop hs hd hy hv
      · cases hr
    · rename_i e hs hd
      split at hc
      · rename_i he
        cases hc
        simp only [aop, Option.bind_eq_some_iff] at hr
        obtain ⟨v, hv, hr⟩ := hr
        split at hr
        · cases hr; exact sim_s2b hop hs hd (isByteT_spec he) hy hv
        · cases hr
      · cases hc
    · rename_i e hs hd
      split at hc
      · rename_i he
        cases hc
        exact sim_b2s hop hs (isByteT_spec he) hd hy hr
      · cases hc
    · cases hc
  | fieldAddr s x n =>
    simp only [cOp, hop, Option.bind_eq_some_iff] at hc
    obtain ⟨fs, hfs, f, hf, i, hi, hc⟩ := hc
    split at hc
    · cases hc
    · rename_i hz
      simp only [Option.map_eq_some_iff] at hc
      obtain ⟨y, hy, rfl⟩ := hc
      obtain ⟨fa, hfa, rfl⟩ := structFields_spec hfs
      simp only [aop, Option.bind_eq_some_iff] at hr
      obtain ⟨v, hv, hr⟩ := hr
      split at hr
      · cases hr; exact sim_faddr hop hfa (fieldAt_spec hf) hi hz hy hv
      · cases hr
  | field ty x n =>
    simp only [cOp, hop, Option.bind_eq_some_iff, Option.map_eq_some_iff] at hc
    obtain ⟨fs, hfs, f, hf, k, hk, y, hy, rfl⟩ := hc
    obtain ⟨fa, hfa, rfl⟩ := structFields_spec hfs
    obtain ⟨d, i, hd, hi, hcase⟩ := aggN_spec hk
    simp only [aop, Option.bind_eq_some_iff] at hr
    obtain ⟨v, hv, hr⟩ := hr
    split at hr
    · rcases hcase with ⟨rfl, hkk⟩ | ⟨rfl, hkk⟩
      · simp only [Option.bind_eq_some_iff] at hr
        obtain ⟨u, hu, hr⟩ := hr
        cases hr
        exact sim_part1 hop hfa (fieldAt_spec hf) hd hkk hy hv hu
      · cases hr
        exact sim_partN hop hfa (fieldAt_spec hf) hd hi hkk hy hv
    · cases hr
  | indexAddr ty x z =>
    simp only [cOp, hop, Option.bind_eq_some_iff] at hc
    obtain ⟨e, he, inf, hi, x', hx', z', hz', hc⟩ := hc
    cases hc
    simp only [aop, Option.bind_eq_some_iff] at hr
    obtain ⟨v1, h1, v2, h2, hr⟩ := hr
    split at hr
    · split at hr
      · rename_i h0
        cases hr
        exact sim_iaddr hop (sliceElem_spec he) hi hx' hz' h1 h2 h0
      · cases hr
    · cases hr
  | index ty x z =>
    simp only [cOp, hop] at hc
    split at hc
    · rename_i hs
      simp only [Option.bind_eq_some_iff] at hc
      obtain ⟨x', hx', z', hz', hc⟩ := hc
      cases hc
      simp only [aop, Option.bind_eq_some_iff] at hr
      obtain ⟨v1, h1, v2, h2, hr⟩ := hr
      split at hr
      · split at hr
        · rename_i h0
          simp only [Option.bind_eq_some_iff] at hr
          obtain ⟨b, hb, hr⟩ := hr
          cases hr
          exact sim_istr hop hs hx' hz' h1 h2 h0 hb
        · cases hr
      · cases hr
    · cases hc
  | slice ty x lo hi mx =>
    cases mx with
    | some _ => simp [cOp, hop] at hc
    | none =>
      simp only [cOp, hop, Option.bind_eq_some_iff] at hc
      obtain ⟨x', hx', lo', hlo, hi', hhi, hc⟩ := hc
      split at hc
      · rename_i hs
        cases hc
        simp only [aop, Option.bind_eq_some_iff] at hr
        obtain ⟨v, hv, vl, hvl, vh, hvh, hr⟩ := hr
        split at hr
        · simp only [Option.bind_eq_some_iff] at hr
          obtain ⟨rh, b2, rl, b1, hr⟩ := hr
          cases hr
          exact sim_slstr hop hs hx' hlo hhi hv hvl hvh b2 b1
        · cases hr
      · rename_i e hs
        simp only [Option.bind_eq_some_iff] at hc
        obtain ⟨i, hi, hc⟩ := hc
        cases hc
        simp only [aop, Option.bind_eq_some_iff] at hr
        obtain ⟨v, hv, vl, hvl, vh, hvh, hr⟩ := hr
        split at hr
        · split at hr
          · rename_i hcs
            subst hcs
            simp only [Option.bind_eq_some_iff] at hr
            obtain ⟨rh, b2, rl, b1, hr⟩ := hr
            cases hr
            exact sim_slsl hop hs hi hx' hlo hhi hv hvl hvh b2 b1
          · cases hr
        · simp only [Option.bind_eq_some_iff] at hr
          obtain ⟨rh, b2, rl, b1, hr⟩ := hr
          cases hr
          exact sim_slnil hop hs hi hx' hlo hhi hv hvl hvh b2 b1
        · cases hr
      · cases hc
  | makeSlice ty x z =>
    simp only [cOp, hop, Option.bind_eq_some_iff] at hc
    obtain ⟨e, he, inf, hi, zv, hz, hc⟩ := hc
    split at hc
    · cases hc
    · rename_i hcond
      simp only [not_or, Classical.not_not] at hcond
      obtain ⟨c1, c2, c3⟩ := hcond
      simp only [Option.bind_eq_some_iff] at hc
      obtain ⟨x', hx', z', hz', hc⟩ := hc
      cases hc
      simp only [aop, Option.bind_eq_some_iff] at hr
      obtain ⟨v1, h1, v2, h2, hr⟩ := hr
      split at hr
      · split at hr
        · rename_i h0
          obtain ⟨d1, rfl, d2, d3⟩ := h0
          cases hr
          exact sim_mkslice hop (sliceElem_spec he) hi hz c1 c2 c3 hx' hz' h1 h2 d1 d2 d3
        · cases hr
      · cases hr
  | extract x i =>
    simp only [cOp, hop, Option.map_eq_some_iff] at hc
    obtain ⟨y, hy, rfl⟩ := hc
    simp only [aop, Option.bind_eq_some_iff] at hr
    obtain ⟨v, hv, hr⟩ := hr
    split at hr
    · simp only [Option.bind_eq_some_iff] at hr
      obtain ⟨u, hu, hr⟩ := hr
      cases hr
      exact sim_ext hop hy hv hu
    · cases hr
  | range ty x =>
    simp only [cOp, hop] at hc
    split at hc
    · rename_i hs
      simp only [Option.map_eq_some_iff] at hc
      obtain ⟨y, hy, rfl⟩ := hc
      simp only [aop, Option.bind_eq_some_iff] at hr
      obtain ⟨v, hv, hr⟩ := hr
      split at hr
      · cases hr; exact sim_rng hop hs hy hv
      · cases hr
    · cases hc
  | next x b =>
    cases b with
    | false => simp [cOp, hop] at hc
    | true =>
      simp only [cOp, hop, Option.map_eq_some_iff] at hc
      obtain ⟨y, hy, rfl⟩ := hc
      exact sim_next hop hy hr
  | makeFunc fn first captured =>
    cases fn with
    | func f =>
      simp only [cOp, hop, Option.bind_eq_some_iff] at hc
      obtain ⟨fs, hfs, cs, hcs, hc⟩ := hc
      cases hc
      simp only [aop, Option.bind_eq_some_iff] at hr
      obtain ⟨v1, h1, v2, h2, hr⟩ := hr
      cases hr
      exact sim_fn hop hfs hcs h1 h2
    | _ => simp [cOp, hop] at hc
  | call c =>
    obtain ⟨callee, args, ts⟩ := c
    cases callee with
    | value f =>
      cases f with
      | func f =>
        simp only [cOp, hop, Option.map_eq_some_iff] at hc
        obtain ⟨ys, hys, hc⟩ := hc
        split at hc
        · rename_i k hk
          subst hc
          simp only [aop, Option.bind_eq_some_iff] at hr
          obtain ⟨vs, hvs, v, hv, hr⟩ := hr
          cases hr
          exact sim_xt hX hop hk hys hvs hv
        · subst hc; cases hr
      | tmp f =>
        simp only [cOp, hop, Option.map_eq_some_iff] at hc
        obtain ⟨ys, hys, hc⟩ := hc
        subst hc; cases hr
      | _ => simp [cOp, hop] at hc
    | builtin b =>
      simp only [cOp, hop] at hc
      unfold cBuiltin at hc
      split at hc
      · rename_i x ty ha hts
        split at hc
        · rename_i hs
          simp only [Option.map_eq_some_iff] at hc
          obtain ⟨y, hy, rfl⟩ := hc
          simp only [aop, Option.bind_eq_some_iff] at hr
          obtain ⟨v, hv, hr⟩ := hr
          split at hr
          · cases hr; exact sim_len_str hop ha hts hs hy hv
          · cases hr
        · rename_i e hs
          simp only [Option.map_eq_some_iff] at hc
          obtain ⟨y, hy, rfl⟩ := hc
          simp only [aop, Option.bind_eq_some_iff] at hr
          obtain ⟨v, hv, hr⟩ := hr
          split at hr
          · cases hr; exact sim_len_sl hop ha hts hs hy hv
          · cases hr
        · cases hc
      · rename_i x y ty u ha hts
        simp only [Option.bind_eq_some_iff] at hc
        obtain ⟨e, he, i, hi, hc⟩ := hc
        split at hc
        · cases hc
        · cases hc
        · rename_i d hni hd
          simp only [Option.bind_eq_some_iff] at hc
          obtain ⟨x', hx', y', hy', zv, hz, hc⟩ := hc
          split at hc
          · cases hc
          · rename_i hcond
            simp only [not_or, Classical.not_not] at hcond
            obtain ⟨c1, c2, c3⟩ := hcond
            cases hc
            have hnd : notInt d = true := by
              cases d <;> first | rfl | (exact absurd rfl (hni _))
            exact sim_app hop ha hts (sliceElem_spec he) hi hd hnd hz c3 c1 c2 hx' hy' hr
      · cases hc
    | _ => simp [cOp, hop] at hc
  | _ => simp [cOp, hop] at hc

end Go.AM
