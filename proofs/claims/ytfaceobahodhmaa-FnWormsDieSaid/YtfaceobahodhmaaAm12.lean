/- Soundness: regions in the text's order, code, calls. -/
import Derived.Test.YtfaceobahodhmaaAm11
set_option maxHeartbeats 4000000
set_option maxRecDepth 100000
namespace Go.AM
set_option linter.unusedVariables false
set_option linter.unusedSimpArgs false
variable {P : Program} {X : Ext} {N : Nat}

def Want (m : MOper) (t : Tm) (yes : Bool) : Prop :=
  (m.guard = none ∧ yes = true) ∨ ∃ g b v, m.guard = some (g, b) ∧ gt t g = some v ∧ yes = (match v with | .bool x => x == b | _ => false)

inductive Tr (P : Program) (X : Ext) : List MOper → Tm → Heap → Nat → (Tm × Heap × Nat) → Prop
  | nil (t : Tm) (h : Heap) (l : Nat) : Tr P X [] t h l (t, h, l)
  | skip {m : MOper} {ms : List MOper} {t : Tm} {h : Heap} {l : Nat} {r : Tm × Heap × Nat} : Want m t false → Tr P X ms (put t m.dst undefV) h l r → Tr P X (m :: ms) t h l r
  | exec {m : MOper} {ms : List MOper} {t : Tm} {h : Heap} {l : Nat} {r : Tm × Heap × Nat} {x : Res} : Want m t true → DoSim P X m.op t h x → (h.length ≤ x.2.2 ∨ m.bar = true) → tell m.op t h x.2.1 m.chk →
      Tr P X ms (put t m.dst x.1) x.2.1 (min l x.2.2) r → Tr P X (m :: ms) t h l r

theorem wanted_rel {ops : Array Oper} {o : Oper} {m : MOper} {t : Tm} {yes : Bool} {a : Act} {ρ : Rho} (hg : guardSlot ops o = some m.guard) (hw : Want m t yes)
    (hr : ∀ g b v, m.guard = some (g, b) → gt t g = some v → ∃ v', a.tmps[g]? = some v' ∧ VRel ρ v v') : Region.wanted o (yielded ops a.tmps) = yes := by
  unfold guardSlot at hg
  unfold Region.wanted
  rcases hw with ⟨h1, rfl⟩ | ⟨g, b, v, h1, h2, rfl⟩
  · split at hg
    · rename_i h; rw [h]
    · rw [h1] at hg
      simp only [Option.map_eq_some_iff] at hg
      obtain ⟨d, _, hd⟩ := hg
      cases hd
  · split at hg
    · rename_i h; rw [h1] at hg; cases hg
    · rename_i j b' h
      rw [h1] at hg
      simp only [Option.map_eq_some_iff] at hg
      obtain ⟨d, hd, hdd⟩ := hg
      cases hdd
      rw [h]
      obtain ⟨v', k1, k2⟩ := hr _ _ _ h1 h2
      simp only [yielded, hd, Option.bind_some, k1]
      cases k2 <;> simp

theorem Act.put_defers_eq (a : Act) (d : Option Nat) (v : Value) : (a.put d v).defers = a.defers := by cases d <;> rfl

theorem cOps_cons {ops : Array Oper} {draw : Bool} {o : Oper} {os : List Oper} {i : Nat} {ms : List MOper} (h : cOps P X N ops draw (o :: os) i = some ms) :
    ∃ m ms', ms = m :: ms' ∧ cOp P X o = some m.op ∧ guardSlot ops o = some m.guard ∧ m.dst = o.dst ∧ dstOK N o = true ∧ m.bar = (if draw then barOK P X ops (masks ops) i else true) ∧ m.chk = (if draw then chkOf P X ops (masks ops) i else []) ∧ cOps P X N ops draw os (i + 1) = some ms' := by
  simp only [cOps, Option.bind_eq_some_iff] at h
  obtain ⟨op, h1, g, h2, ms', h3, h⟩ := h
  split at h
  · rename_i hd; cases h; exact ⟨_, ms', rfl, h1, h2, rfl, hd, rfl, rfl, h3⟩
  · cases h

theorem dst_lt {o : Oper} (h : dstOK N o = true) : ∀ d, o.dst = some d → d < N := by
  intro d hd
  simpa [dstOK, hd] using h

theorem undef_rel (ρ : Rho) : VRel ρ undefV undef := .tuple rfl fun i x y hx => by simp at hx

theorem tr_seq {ops : Array Oper} {draw : Bool} {ms : List MOper} {t : Tm} {h : Heap} {l : Nat} {r : Tm × Heap × Nat} (htr : Tr P X ms t h l r) :
    ∀ (os : List Oper) (i : Nat), cOps P X N ops draw os i = some ms → os = ops.toList.drop i → ∃ l1, r.2.2 = min l l1 ∧
      ∀ (ρ : Rho) (a : Act) (w : World) (Q : Exit → Act → World → Prop), Dom ρ h → WRel ρ h w → TRel N ρ t a → a.defers = [] →
        (∀ ρ' a' w', Post ρ h w ρ' r.2.1 w' l1 → TRel N ρ' r.1 a' → a'.defers = [] → Q .normal a' w') → wpOps P ops Q (List.range' i os.length) a w := by
  induction htr with
  | nil t h l =>
    intro os i hc hos
    refine ⟨l, by simp, fun ρ a w Q hd hw ht hdf hq => ?_⟩
    cases os with
    | nil => exact hq ρ a w (Post.refl hd hw l) ht hdf
    | cons o os => obtain ⟨m, ms', h1, _⟩ := cOps_cons hc; cases h1
  | @skip m ms t h l r hwant htr ih =>
    intro os i hc hos
    cases os with
    | nil => cases hc
    | cons o os =>
      obtain ⟨m', ms', h1, h2, h3, h4, h5, h6, _, h7⟩ := cOps_cons hc
      cases h1
      have hoi : ops[i]? = some o := by
        have := congrArg (·[0]?) hos
        simp at this
        exact this.symm
      obtain ⟨l1, k1, k2⟩ := ih os (i + 1) h7 (by rw [← List.drop_drop, ← hos]; rfl)
      refine ⟨l1, k1, fun ρ a w Q hd hw ht hdf hq => ?_⟩
      rw [List.length_cons, List.range'_succ, wpOps_cons]
      unfold wpOp
      rw [hoi]
      have hwn : Region.wanted o (yielded ops a.tmps) = false := wanted_rel h3 hwant fun g b v _ hg => ht.at_ g v hg
      simp only [hwn, Bool.false_eq_true, if_false]
      refine k2 ρ _ w Q hd hw ?_ (by rw [Act.put_defers_eq]; exact hdf) hq
      rw [h4]
      exact ht.put (dst_lt h5) (undef_rel ρ)
  | @exec m ms t h l r x hwant hsim hbar hchk htr ih =>
    intro os i hc hos
    cases os with
    | nil => cases hc
    | cons o os =>
      obtain ⟨m', ms', h1, h2, h3, h4, h5, h6, _, h7⟩ := cOps_cons hc
      cases h1
      have hoi : ops[i]? = some o := by
        have := congrArg (·[0]?) hos
        simp at this
        exact this.symm
      obtain ⟨l1, k1, k2⟩ := ih os (i + 1) h7 (by rw [← List.drop_drop, ← hos]; rfl)
      refine ⟨min x.2.2 l1, by rw [k1]; omega, fun ρ a w Q hd hw ht hdf hq => ?_⟩
      rw [List.length_cons, List.range'_succ, wpOps_cons]
      unfold wpOp
      rw [hoi]
      have hwn : Region.wanted o (yielded ops a.tmps) = true := wanted_rel h3 hwant fun g b v _ hg => ht.at_ g v hg
      simp only [hwn, if_true]
      refine .inl ((hsim.1 N o t h2 (fun _ _ => rfl) ρ a w hd hw ht).wp ?_)
      rintro v' w' ⟨ρ', hp, hv⟩
      refine k2 ρ' _ w' Q hp.dom hp.rel ?_ (by rw [Act.put_defers_eq]; exact hdf) ?_
      · rw [h4]; exact (ht.mono hp.sub).put (dst_lt h5) hv
      · intro ρ'' a'' w'' hp' ht' hdf'
        exact hq ρ'' a'' w'' (Post.trans hw hp hp') ht' hdf'

theorem Tr.hext {ms : List MOper} {t : Tm} {h : Heap} {l : Nat} {r : Tm × Heap × Nat} (htr : Tr P X ms t h l r) : HExt h r.2.1 r.2.2 ∧ r.2.2 ≤ l := by
  induction htr with
  | nil t h l => exact ⟨HExt.refl _ _, Nat.le_refl _⟩
  | skip _ _ ih => exact ih
  | exec _ hs _ _ _ ih => exact ⟨hs.2.2.1.trans ih.1 (by omega) (Nat.le_refl _), by omega⟩

def exitC : Ex → Exit
  | .n => .normal
  | .x i => .exit i
  | .r => .ret

def CodeSim (P : Program) (N : Nat) (code : Code) (t : Tm) (h : Heap) (l : Nat) (r : ExR) : Prop :=
  ∃ l1, r.2.2.2 = min l l1 ∧ ∀ (ρ : Rho) (a : Act) (w : World) (Q : Exit → Act → World → Prop), Dom ρ h → WRel ρ h w → TRel N ρ t a → a.defers = [] →
    (∀ ρ' a' w', Post ρ h w ρ' r.2.2.1 w' l1 → TRel N ρ' r.2.1 a' → a'.defers = [] → Q (exitC r.1) a' w') → code.wp P Q a w

def CallSim (P : Program) (f : FuncId) (args : List Value) (h : Heap) (r : Res) : Prop :=
  HExt h r.2.1 r.2.2 ∧
  (∃ fn c, P.funcs[f]? = some fn ∧ fn.body = some c ∧ (fn.name == "runtime.NumGoroutine") = false) ∧
  ∀ (ρ : Rho) (w : World) (cargs : Array Value), Dom ρ h → WRel ρ h w → VRelL ρ args cargs.toList →
    Calls P f cargs w fun e w' => ∃ v', e = .returned v' ∧ ∃ ρ', Post ρ h w ρ' r.2.1 w' r.2.2 ∧ VRel ρ' r.1 v'

def AnyOrder (P : Program) (X : Ext) : Prop :=
  ∀ (N id : Nat) (ops : Array Oper) (ms : List MOper) (t : Tm) (h : Heap) (l : Nat) (r : Tm × Heap × Nat), cOps P X N ops true ops.toList 0 = some ms → drawOK ops ms = true → Tr P X ms t h l r →
    ∃ l1, r.2.2 = min l l1 ∧ ∀ (ρ : Rho) (a : Act) (w : World) (Q : Exit → Act → World → Prop), Dom ρ h → WRel ρ h w → TRel N ρ t a → a.defers = [] →
      (∀ ρ' a' w', Post ρ h w ρ' r.2.1 w' l1 → TRel N ρ' r.1 a' → a'.defers = [] → Q .normal a' w') → (Code.region id ops true).wp P Q a w

theorem callFunc_enter {f : FuncId} {fn : Func} {c : Code} (hf : P.funcs[f]? = some fn) (hb : fn.body = some c) (hn : (fn.name == "runtime.NumGoroutine") = false) (args : Array Value) (w : World) :
    (callFunc f args).run P w = .ok (.enter f args) w := by
  have h1 : fn.name ≠ "runtime.NumGoroutine" := by simpa using hn
  simp [callFunc, hf, h1, hb]

theorem sim_call {o : Oper} {f : FuncId} {args : Array Operand} {ts : Array TypeId} {ys : List Opd} {vs : List Value} {t : Tm} {h : Heap} {r : Res} (ho : o.op = .call { callee := .value (.func f), args, argTypes := ts })
    (hx : cOpds args.toList = some ys) (hv : evs t ys = some vs) (hc : CallSim P f vs h r) : OpSim P N o t h r := by
  intro ρ a w hd hw ht
  obtain ⟨_, ⟨fn, c, hf, hb, hn⟩, hs⟩ := hc
  have rl := opds_rel ht hx hv
  have hrun : (execOp a.eval o).run P w = .ok (.enter f (args.map a.eval)) w := by
    simp only [execOp, ho]
    simp [resolve, Deferred.ofValue, invoke, Act.eval, callFunc_enter hf hb hn]
  unfold Gives
  rw [hrun]
  exact hs ρ w (args.map a.eval) hd hw (by simpa using rl)

theorem sim_callv {o : Oper} {x : Nat} {g : FuncId} {args : Array Operand} {ts : Array TypeId} {ys : List Opd} {vs : List Value} {fs cs : Array Value} {t : Tm} {h : Heap} {r : Res} (ho : o.op = .call { callee := .value (.tmp x), args, argTypes := ts })
    (hx : cOpds args.toList = some ys) (hf : ev t (.tmp x) = some (.func (.func g) fs cs)) (hv : evs t ys = some vs) (hc : CallSim P g (fs.toList ++ vs ++ cs.toList) h r) : OpSim P N o t h r := by
  intro ρ a w hd hw ht
  obtain ⟨_, ⟨fn, c, hfn, hb, hn⟩, hs⟩ := hc
  have rl := opds_rel ht hx hv
  have rf := opd_rel ht (x := .tmp x) rfl hf
  generalize hq : a.eval (.tmp x) = q at rf
  cases rf with
  | func _ i1 i2 i3 i4 =>
    rename_i fs' cs'
    have hrun : (execOp a.eval o).run P w = .ok (.enter g (fs' ++ args.map a.eval ++ cs')) w := by
      simp only [execOp, ho]
      simp [resolve, hq, Deferred.ofValue, invoke, callFunc_enter hfn hb hn]
    unfold Gives
    rw [hrun]
    refine hs ρ w _ hd hw ?_
    have := ((VRelL.ofArr i1 i2).append rl).append (VRelL.ofArr i3 i4)
    simpa using this

end Go.AM
