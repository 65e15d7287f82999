/- Soundness of the machine: the theorem. -/
import Derived.Test.YtfaceobahodhmaaAm13
set_option maxHeartbeats 4000000
set_option maxRecDepth 100000
namespace Go.AM
set_option linter.unusedVariables false
set_option linter.unusedSimpArgs false
variable {P : Program} {X : Ext}

theorem CodeSim.seq {N : Nat} {A B : Code} {t : Tm} {h : Heap} {l : Nat} {r1 r : ExR} (ha : CodeSim P N A t h l r1)
    (hb : (r1.1 = .n ∧ CodeSim P N B r1.2.1 r1.2.2.1 r1.2.2.2 r) ∨ (r1.1 ≠ .n ∧ r = r1)) : CodeSim P N (.seq A B) t h l r := by
  obtain ⟨la, e1, ha⟩ := ha
  rcases hb with ⟨hn, lb, e2, hb⟩ | ⟨hn, rfl⟩
  · refine ⟨min la lb, by rw [e2, e1]; omega, fun ρ a w Q hd hw ht hdf hq => ?_⟩
    refine wp_seq (ha ρ a w _ hd hw ht hdf ?_)
    intro ρ1 a1 w1 hp ht1 hdf1
    rw [hn]
    exact hb ρ1 a1 w1 Q hp.dom hp.rel ht1 hdf1 fun ρ2 a2 w2 hp2 ht2 hdf2 => hq ρ2 a2 w2 (Post.trans hw hp hp2) ht2 hdf2
  · refine ⟨la, e1, fun ρ a w Q hd hw ht hdf hq => ?_⟩
    refine wp_seq (ha ρ a w _ hd hw ht hdf ?_)
    intro ρ1 a1 w1 hp ht1 hdf1
    exact exit_then _ _ _ _ _ (fun he => absurd he hn) (fun _ => hq ρ1 a1 w1 hp ht1 hdf1)

theorem cOp_call {o : Oper} {f : FuncId} {ys : List Opd} (hc : cOp P X o = some (.call f ys)) : ∃ args ts, o.op = .call { callee := .value (.func f), args, argTypes := ts } ∧ cOpds args.toList = some ys := by
  cases hop : o.op with
  | call c =>
    obtain ⟨callee, args, ts⟩ := c
    cases callee with
    | value x =>
      cases x with
      | func g =>
        simp only [cOp, hop, Option.map_eq_some_iff] at hc
        obtain ⟨zs, hz, hc⟩ := hc
        split at hc
        · cases hc
        · cases hc; exact ⟨args, ts, rfl, hz⟩
      | tmp g => simp only [cOp, hop, Option.map_eq_some_iff] at hc; obtain ⟨_, _, hc⟩ := hc; cases hc
      | _ => simp [cOp, hop] at hc
    | builtin b =>
      simp only [cOp, hop] at hc
      unfold cBuiltin at hc
      repeat' first | (cases hc; done) | (split at hc) | (simp only [Option.bind_eq_some_iff, Option.map_eq_some_iff] at hc) | (obtain ⟨_, hc⟩ := hc)
    | _ => simp [cOp, hop] at hc
  | slice _ _ _ _ mx => cases mx <;> simp only [cOp, hop] at hc <;> repeat' first | (cases hc; done) | (split at hc) | (simp only [Option.bind_eq_some_iff, Option.map_eq_some_iff] at hc) | (obtain ⟨_, hc⟩ := hc)
  | next _ b => cases b <;> simp only [cOp, hop] at hc <;> repeat' first | (cases hc; done) | (split at hc) | (simp only [Option.bind_eq_some_iff, Option.map_eq_some_iff] at hc) | (obtain ⟨_, hc⟩ := hc)
  | makeFunc fn _ _ => cases fn <;> simp only [cOp, hop] at hc <;> repeat' first | (cases hc; done) | (split at hc) | (simp only [Option.bind_eq_some_iff, Option.map_eq_some_iff] at hc) | (obtain ⟨_, hc⟩ := hc)
  | _ => simp only [cOp, hop] at hc <;> repeat' first | (cases hc; done) | (split at hc) | (simp only [Option.bind_eq_some_iff, Option.map_eq_some_iff] at hc) | (obtain ⟨_, hc⟩ := hc)

theorem cOp_callv {o : Oper} {f : Opd} {ys : List Opd} (hc : cOp P X o = some (.callv f ys)) : ∃ x args ts, o.op = .call { callee := .value (.tmp x), args, argTypes := ts } ∧ f = .tmp x ∧ cOpds args.toList = some ys := by
  cases hop : o.op with
  | call c =>
    obtain ⟨callee, args, ts⟩ := c
    cases callee with
    | value x =>
      cases x with
      | func g =>
        simp only [cOp, hop, Option.map_eq_some_iff] at hc
        obtain ⟨zs, hz, hc⟩ := hc
        split at hc <;> cases hc
      | tmp g => simp only [cOp, hop, Option.map_eq_some_iff] at hc; obtain ⟨zs, hz, hc⟩ := hc; cases hc; exact ⟨g, args, ts, rfl, rfl, hz⟩
      | _ => simp [cOp, hop] at hc
    | builtin b =>
      simp only [cOp, hop] at hc
      unfold cBuiltin at hc
      repeat' first | (cases hc; done) | (split at hc) | (simp only [Option.bind_eq_some_iff, Option.map_eq_some_iff] at hc) | (obtain ⟨_, hc⟩ := hc)
    | _ => simp [cOp, hop] at hc
  | slice _ _ _ _ mx => cases mx <;> simp only [cOp, hop] at hc <;> repeat' first | (cases hc; done) | (split at hc) | (simp only [Option.bind_eq_some_iff, Option.map_eq_some_iff] at hc) | (obtain ⟨_, hc⟩ := hc)
  | next _ b => cases b <;> simp only [cOp, hop] at hc <;> repeat' first | (cases hc; done) | (split at hc) | (simp only [Option.bind_eq_some_iff, Option.map_eq_some_iff] at hc) | (obtain ⟨_, hc⟩ := hc)
  | makeFunc fn _ _ => cases fn <;> simp only [cOp, hop] at hc <;> repeat' first | (cases hc; done) | (split at hc) | (simp only [Option.bind_eq_some_iff, Option.map_eq_some_iff] at hc) | (obtain ⟨_, hc⟩ := hc)
  | _ => simp only [cOp, hop] at hc <;> repeat' first | (cases hc; done) | (split at hc) | (simp only [Option.bind_eq_some_iff, Option.map_eq_some_iff] at hc) | (obtain ⟨_, hc⟩ := hc)

set_option maxHeartbeats 1000000 in
theorem sound (hX : ExtOK P X) (hany : AnyOrder P X) :
    (∀ f args h r, acall (prog P X) f args h = some r → CallSim P f args h r) := by
  refine eval_induct (prog P X) (fun f args h r => CallSim P f args h r)
    (fun c t h l r => ∀ (N : Nat) (keep : List Nat) (code : Code), cCode P X N keep code = some c → (HExt h r.2.2.1 r.2.2.2 ∧ r.2.2.2 ≤ l) ∧ CodeSim P N code t h l r ∧ ∀ b, code = .loop b → LoopSim P N b t h l r)
    (fun ms t h l r => Tr P X ms t h l r)
    (fun m ms t h l r => ∃ x, DoSim P X m.op t h x ∧ (h.length ≤ x.2.2 ∨ m.bar = true) ∧ tell m.op t h x.2.1 m.chk ∧ Tr P X ms (put t m.dst x.1) x.2.1 (min l x.2.2) r)
    (fun m t h r => DoSim P X m t h r) ?_ ?_ ?_ ?_ ?_
  · 
    intro F ih f args h r hr
    unfold sCall at hr
    simp only [Option.bind_eq_bind, Option.bind_eq_some_iff] at hr
    obtain ⟨mf, hmf, ⟨e, t', h', l'⟩, hcode, hr⟩ := hr
    have hc := hmf
    simp only [prog, cFunc, Option.bind_eq_some_iff] at hc
    obtain ⟨fn, hfn, c, hb, hc⟩ := hc
    split at hc
    · cases hc
    · rename_i hname
      have hname' : (fn.name == "runtime.NumGoroutine") = false := by simpa using hname
      simp only [Option.bind_eq_some_iff] at hc
      obtain ⟨rs, hrs, b, hbody, hc⟩ := hc
      cases hc
      obtain ⟨⟨hxt, _⟩, ⟨l1, hl, hsim⟩, _⟩ := ih _ _ _ _ _ hcode _ _ _ hbody
      simp only at hl hsim hxt
      have hext : ∀ v, HExt h (finish h v h' l').2.1 (finish h v h' l').2.2 := by
        intro v
        unfold finish
        split
        · exact HExt.refl _ _
        · exact hxt
      have hdone : ∃ vs, ares t' h' rs = some vs ∧ r = finish h (oneOr vs) h' l' ∧ (e = .n ∨ e = .r) := by
        cases e with
        | x i => simp at hr
        | n => simp only [Option.bind_eq_some_iff] at hr; obtain ⟨vs, h1, h2⟩ := hr; cases h2; exact ⟨vs, h1, rfl, .inl rfl⟩
        | r => simp only [Option.bind_eq_some_iff] at hr; obtain ⟨vs, h1, h2⟩ := hr; cases h2; exact ⟨vs, h1, rfl, .inr rfl⟩
      obtain ⟨vs, hvs, rfl, he⟩ := hdone
      refine ⟨hext _, ⟨fn, c, hfn, hb, hname'⟩, fun ρ w cargs hd hw ha => ?_⟩
      refine calls_of_wp hfn hb (hsim ρ _ w _ hd hw ?_ rfl ?_)
      · refine ⟨by simp; omega, fun i v hi => ?_⟩
        obtain ⟨_, h2⟩ := argT_at args 0 i v hi
        simp only [Nat.sub_zero] at h2
        obtain ⟨v', k1, k2⟩ := ha.get h2
        refine ⟨v', ?_, k2⟩
        rw [Array.getElem?_append_left (by simpa using (List.getElem?_eq_some_iff.1 k1).1)]
        simpa using k1
      · intro ρ' a' w' hp ht hdf
        obtain ⟨v', k1, k2⟩ := results_rel ht hp.rel hrs hvs
        have hfin : ∃ ρ'', Post ρ h w ρ'' (finish h (oneOr vs) h' l').2.1 w' (finish h (oneOr vs) h' l').2.2 ∧ VRel ρ'' (finish h (oneOr vs) h' l').1 v' := by
          unfold finish
          split
          · rename_i hcond
            exact ⟨ρ, hp.gc hd hw (by omega), k2.flat_any hcond.2⟩
          · exact ⟨ρ', hp.mono (show l' ≤ l1 by omega), k2⟩
        rcases he with rfl | rfl
        · exact ⟨hdf, v', k1, v', rfl, hfin⟩
        · exact ⟨hdf, v', k1, v', rfl, hfin⟩
  · 
    intro F ihc iho c t h l r hr N keep code hc
    unfold sCode at hr
    cases code with
    | skip =>
      cases hc
      cases hr
      exact ⟨⟨HExt.refl _ _, Nat.le_refl _⟩, ⟨l, by simp, fun ρ a w Q hd hw ht hdf hq => wp_skip (hq ρ a w (Post.refl hd hw l) ht hdf)⟩, fun b hb => by cases hb⟩
    | ret =>
      cases hc
      cases hr
      exact ⟨⟨HExt.refl _ _, Nat.le_refl _⟩, ⟨l, by simp, fun ρ a w Q hd hw ht hdf hq => wp_ret (hq ρ a w (Post.refl hd hw l) ht hdf)⟩, fun b hb => by cases hb⟩
    | exit id =>
      cases hc
      cases hr
      exact ⟨⟨HExt.refl _ _, Nat.le_refl _⟩, ⟨l, by simp, fun ρ a w Q hd hw ht hdf hq => wp_exit (hq ρ a w (Post.refl hd hw l) ht hdf)⟩, fun b hb => by cases hb⟩
    | seq A B =>
      simp only [cCode, Option.bind_eq_some_iff] at hc
      obtain ⟨a, ha, b, hb, hc⟩ := hc
      cases hc
      simp only [Option.bind_eq_bind, Option.bind_eq_some_iff] at hr
      obtain ⟨⟨e, t1, h1, l1⟩, hra, hr⟩ := hr
      obtain ⟨⟨x1, x2⟩, x3, _⟩ := ihc _ _ _ _ _ hra _ _ _ ha
      simp only at x1 x2
      refine ⟨?_, CodeSim.seq x3 ?_, fun b hb => by cases hb⟩
      · cases e with
        | n =>
          obtain ⟨⟨y1, y2⟩, _, _⟩ := ihc _ _ _ _ _ hr _ _ _ hb
          exact ⟨x1.trans y1 (by omega) (Nat.le_refl _), by omega⟩
        | x i => cases hr; exact ⟨x1, x2⟩
        | r => cases hr; exact ⟨x1, x2⟩
      · cases e with
        | n => exact .inl ⟨rfl, (ihc _ _ _ _ _ hr _ _ _ hb).2.1⟩
        | x i => cases hr; exact .inr ⟨by simp, rfl⟩
        | r => cases hr; exact .inr ⟨by simp, rfl⟩
    | cond cc A B =>
      simp only [cCode, Option.bind_eq_some_iff] at hc
      obtain ⟨x, hx, a, ha, b, hb, hc⟩ := hc
      cases hc
      simp only at hr
      split at hr
      · rename_i bb hev
        have hcond : ∀ {ρ : Rho} {a : Act}, TRel N ρ t a → a.eval cc = .bool bb := by
          intro ρ a ht
          have := opd_rel ht hx hev
          generalize a.eval cc = q at this
          cases this; rfl
        cases bb with
        | true =>
          simp only [if_true] at hr
          obtain ⟨hx, ⟨l1, e1, hs⟩, _⟩ := ihc _ _ _ _ _ hr _ _ _ ha
          refine ⟨hx, ?_, fun b hb => by cases hb⟩
          exact ⟨l1, e1, fun ρ a w Q hd hw ht hdf hq => wp_cond_true (hcond ht) (hs ρ a w Q hd hw ht hdf hq)⟩
        | false =>
          simp only [Bool.false_eq_true, if_false] at hr
          obtain ⟨hx, ⟨l1, e1, hs⟩, _⟩ := ihc _ _ _ _ _ hr _ _ _ hb
          refine ⟨hx, ?_, fun b hb => by cases hb⟩
          exact ⟨l1, e1, fun ρ a w Q hd hw ht hdf hq => wp_cond_false (hcond ht) (hs ρ a w Q hd hw ht hdf hq)⟩
      · cases hr
    | block id A =>
      simp only [cCode, Option.map_eq_some_iff] at hc
      obtain ⟨a, ha, rfl⟩ := hc
      simp only [Option.bind_eq_bind, Option.bind_eq_some_iff] at hr
      obtain ⟨⟨e, t1, h1, l1⟩, hra, hr⟩ := hr
      obtain ⟨hx, ⟨lo, e1, hs⟩, _⟩ := ihc _ _ _ _ _ hra _ _ _ ha
      simp only at e1 hs hx
      refine ⟨?_, ?_, fun b hb => by cases hb⟩
      · cases e with
        | n => cases hr; exact hx
        | r => cases hr; exact hx
        | x j =>
          simp only at hr
          split at hr <;> (cases hr; exact hx)
      cases e with
      | n => cases hr; exact ⟨lo, e1, fun ρ a w Q hd hw ht hdf hq => wp_block (hs ρ a w _ hd hw ht hdf hq)⟩
      | r => cases hr; exact ⟨lo, e1, fun ρ a w Q hd hw ht hdf hq => wp_block (hs ρ a w _ hd hw ht hdf hq)⟩
      | x j =>
        simp only at hr
        split at hr
        · rename_i hj
          cases hr
          refine ⟨lo, e1, fun ρ a w Q hd hw ht hdf hq => wp_block (hs ρ a w _ hd hw ht hdf fun ρ' a' w' hp ht' hdf' => ?_)⟩
          simp only [exitC, Exit.inBlock, hj, if_true]
          exact hq ρ' a' w' hp ht' hdf'
        · rename_i hj
          cases hr
          refine ⟨lo, e1, fun ρ a w Q hd hw ht hdf hq => wp_block (hs ρ a w _ hd hw ht hdf fun ρ' a' w' hp ht' hdf' => ?_)⟩
          simp only [exitC, Exit.inBlock, hj, if_false]
          exact hq ρ' a' w' hp ht' hdf'
    | loop A =>
      have hc0 := hc
      simp only [cCode, Option.map_eq_some_iff] at hc
      obtain ⟨a, ha, rfl⟩ := hc
      simp only [Option.bind_eq_bind, Option.bind_eq_some_iff] at hr
      obtain ⟨⟨e, t1, h1, l1⟩, hra, hr⟩ := hr
      obtain ⟨⟨x1, x2⟩, ⟨lo, e1, hs⟩, _⟩ := ihc _ _ _ _ _ hra _ _ _ ha
      simp only at e1 hs x1 x2
      have hx : HExt h r.2.2.1 r.2.2.2 ∧ r.2.2.2 ≤ l := by
        cases e with
        | n =>
          obtain ⟨⟨y1, y2⟩, _, _⟩ := ihc _ _ _ _ _ hr _ _ _ hc0
          exact ⟨x1.trans y1 (by omega) (Nat.le_refl _), by omega⟩
        | x i => cases hr; exact ⟨x1, x2⟩
        | r => cases hr; exact ⟨x1, x2⟩
      have hloop : LoopSim P N A t h l r := by
        cases e with
        | n =>
          simp only at hr
          obtain ⟨l2, n, e2, hs2⟩ := (ihc _ _ _ _ _ hr _ _ _ hc0).2.2 A rfl
          refine ⟨min lo l2, n + 1, by rw [e2, e1]; omega, fun ρ a w Q hd hw ht hdf hq => ?_⟩
          refine hs ρ a w _ hd hw ht hdf fun ρ1 a1 w1 hp ht1 hdf1 => ?_
          exact hs2 ρ1 a1 w1 Q hp.dom hp.rel ht1 hdf1 fun ρ2 a2 w2 hp2 ht2 hdf2 => hq ρ2 a2 w2 (Post.trans hw hp hp2) ht2 hdf2
        | x j => cases hr; exact ⟨lo, 1, e1, fun ρ a w Q hd hw ht hdf hq => hs ρ a w _ hd hw ht hdf fun ρ1 a1 w1 hp ht1 hdf1 => hq ρ1 a1 w1 hp ht1 hdf1⟩
        | r => cases hr; exact ⟨lo, 1, e1, fun ρ a w Q hd hw ht hdf hq => hs ρ a w _ hd hw ht hdf fun ρ1 a1 w1 hp ht1 hdf1 => hq ρ1 a1 w1 hp ht1 hdf1⟩
      refine ⟨hx, ?_, fun b hb => by cases hb; exact hloop⟩
      obtain ⟨l2, n, e2, hs2⟩ := hloop
      exact ⟨l2, e2, fun ρ a w Q hd hw ht hdf hq => wp_loop_rounds n (hs2 ρ a w Q hd hw ht hdf hq)⟩
    | region id ops draw =>
      simp only [cCode, Option.bind_eq_some_iff] at hc
      obtain ⟨ms, hms, hc⟩ := hc
      split at hc
      · cases hc
      · rename_i hok
        cases hc
        simp only [Option.bind_eq_bind, Option.bind_eq_some_iff] at hr
        obtain ⟨⟨t1, h1, l1⟩, hra, hr⟩ := hr
        cases hr
        have htr := iho _ _ _ _ _ hra
        refine ⟨htr.hext, ?_, fun b hb => by cases hb⟩
        cases draw with
        | false =>
          obtain ⟨lo, e1, hs⟩ := tr_seq (P := P) (X := X) (N := N) (ops := ops) (draw := false) htr ops.toList 0 hms (by simp)
          refine ⟨lo, e1, fun ρ a w Q hd hw ht hdf hq => wp_region ?_⟩
          have := hs ρ a w Q hd hw ht hdf fun ρ' a' w' hp ht' hdf' => hq ρ' a' w' hp (ht'.keep _) hdf'
          rw [← List.range_eq_range', Array.length_toList] at this
          exact this
        | true =>
          have hok' : drawOK ops ms = true := by
            simp only [true_and, Bool.not_eq_false] at hok
            exact hok
          obtain ⟨lo, e1, hs⟩ := hany N id ops ms t h l _ hms hok' htr
          exact ⟨lo, e1, fun ρ a w Q hd hw ht hdf hq => hs ρ a w Q hd hw ht hdf fun ρ' a' w' hp ht' hdf' => hq ρ' a' w' hp (ht'.keep _) hdf'⟩
    | _ => cases hc
  · 
    intro F iho ih1 ms t h l r hr
    unfold sOps at hr
    cases ms with
    | nil => cases hr; exact .nil t h l
    | cons m ms =>
      simp only at hr
      split at hr
      · rename_i hg
        obtain ⟨x, h1, h2, h2', h3⟩ := ih1 _ _ _ _ _ _ hr
        exact .exec (.inl ⟨hg, rfl⟩) h1 h2 h2' h3
      · rename_i g b hg
        split at hr
        · rename_i x hx
          split at hr
          · rename_i hxb
            obtain ⟨y, h1, h2, h2', h3⟩ := ih1 _ _ _ _ _ _ hr
            exact .exec (.inr ⟨g, b, _, hg, hx, by simp [hxb]⟩) h1 h2 h2' h3
          · rename_i hxb
            exact .skip (.inr ⟨g, b, _, hg, hx, by simp [hxb]⟩) (iho _ _ _ _ _ hr)
        · rename_i v hv hx
          refine .skip (.inr ⟨g, b, v, hg, hx, ?_⟩) (iho _ _ _ _ _ hr)
          cases v <;> first | rfl | (exact absurd rfl (hv _))
        · cases hr
  · 
    intro F iho ihd m ms t h l r hr
    unfold sOne at hr
    simp only [Option.bind_eq_bind, Option.bind_eq_some_iff] at hr
    obtain ⟨x, hx, hr⟩ := hr
    split at hr
    · rename_i hcond
      exact ⟨x, ihd _ _ _ _ hx, hcond.1, hcond.2, iho _ _ _ _ _ hr⟩
    · cases hr
  · 
    intro F ih m t h r hr
    unfold sDo at hr
    split at hr
    · rename_i f args
      simp only [Option.bind_eq_bind, Option.bind_eq_some_iff] at hr
      obtain ⟨vs, hvs, hr⟩ := hr
      refine ⟨fun N o t' hc hs => ?_, fun hp => by simp [MOp.pure] at hp, (ih _ _ _ _ hr).1, fun hm => absurd hm (by simp [MOp.isCall]), fun hm => absurd hm (by simp [MOp.isRd])⟩
      have hvs' : evs t' args = some vs := (evs_congr hs).trans hvs
      obtain ⟨xs, ts, hop, hx⟩ := cOp_call hc
      exact sim_call hop hx hvs' (ih _ _ _ _ hr)
    · rename_i f args
      simp only [Option.bind_eq_bind, Option.bind_eq_some_iff] at hr
      obtain ⟨fv, hfv, vs, hvs, hr⟩ := hr
      refine ⟨fun N o t' hc hs => ?_, fun hp => by simp [MOp.pure] at hp, (by split at hr <;> first | exact (ih _ _ _ _ hr).1 | (cases hr; done)), fun hm => absurd hm (by simp [MOp.isCall]), fun hm => absurd hm (by simp [MOp.isRd])⟩
      have hvs' : evs t' args = some vs := (evs_congr (fun i hi => hs i (List.mem_append.2 (.inr hi)))).trans hvs
      have hfv' : ev t' f = some fv := (ev_congr (fun i hi => hs i (List.mem_append.2 (.inl hi)))).trans hfv
      obtain ⟨x, xs, ts, hop, rfl, hx⟩ := cOp_callv hc
      split at hr
      · exact sim_callv hop hx hfv' hvs' (ih _ _ _ _ hr)
      · cases hr
    · rename_i n1 n2
      refine DoSim.of_aop hX ?_ hr
      cases m <;> first | rfl | exact absurd rfl (n1 _ _) | exact absurd rfl (n2 _ _)

end Go.AM
