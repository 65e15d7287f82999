/- The calculus of the abstract machine: what a code, a row of operations and a call bring about. -/
import Derived.Test.YtfaceobahodhmaaAm17
set_option maxHeartbeats 4000000
set_option maxRecDepth 100000
namespace Go.AM
set_option linter.unusedVariables false
set_option linter.unusedSimpArgs false

class Bx (α : Type) where
  un : α

def Wc (M : Prog) (c : MCode) (t : Tm) (h : Heap) (l : Nat) [K : Bx (Ex → Tm → Heap → Nat → Prop)] : Prop :=
  ∃ e t' h' l', acode M c t h l = some (e, t', h', l') ∧ K.un e t' h' l'

def Wo (M : Prog) (ops : List MOper) (t : Tm) (h : Heap) (l : Nat) [K : Bx (Tm → Heap → Nat → Prop)] : Prop :=
  ∃ t' h' l', aops M ops t h l = some (t', h', l') ∧ K.un t' h' l'

def Wd (M : Prog) (o : MOp) (t : Tm) (h : Heap) [K : Bx (Value → Heap → Nat → Prop)] : Prop :=
  ∃ v h' l, ado M o t h = some (v, h', l) ∧ K.un v h' l

def Wa (M : Prog) (f : FuncId) (args : List Value) (h : Heap) [K : Bx (Value → Heap → Nat → Prop)] : Prop :=
  ∃ v h' l, acall M f args h = some (v, h', l) ∧ K.un v h' l

def ob {α : Type} (o : Option α) [k : Bx (α → Prop)] : Prop := match o with | some a => k.un a | none => False
theorem Zbv {α : Type} {a : α} {k : α → Prop} : @ob _ (some a) ⟨k⟩ = k a := rfl
theorem Zh4 {α : Type} {k : α → Prop} : @ob α none ⟨k⟩ = False := rfl

@[congr] theorem ite_ctx {p q : Prop} {A B A' B' : Prop} [Decidable p] [Decidable q] (h : p = q) (ht : q → A = A') (he : ¬ q → B = B') : (if p then A else B) = (if q then A' else B') := by
  subst h
  split <;> simp_all

def nm {α : Type} (a : α) [k : Bx (α → Prop)] : Prop := k.un a
theorem Zh6 {α : Type} {a : α} {k : α → Prop} : @nm _ a ⟨k⟩ = k a := rfl

def kc (o : Option Value) (i : Nat) (r : Tm) : Tm := match o with | some v => (i, v) :: r | none => r
theorem kc_some {v : Value} {i : Nat} {r : Tm} : kc (some v) i r = (i, v) :: r := rfl
theorem kc_none {i : Nat} {r : Tm} : kc none i r = r := rfl
theorem keepT_nil {t : Tm} : keepT t [] = [] := rfl
theorem Zce {t : Tm} {i : Nat} {r : List Nat} : keepT t (i :: r) = kc (gt t i) i (keepT t r) := by
  simp only [keepT, kc]
  cases gt t i <;> rfl
def bsel {α : Type} (b : Bool) (x y : α) : α := match b with | true => x | false => y
theorem Zbz {α : Type} {x y : α} : bsel true x y = x := congrArg (fun x => x) rfl
theorem Zb0 {α : Type} {x y : α} : bsel false x y = y := congrArg (fun x => x) rfl
@[congr] theorem bsel_congr {α : Type} {b b' : Bool} {x y : α} (h : b = b') : bsel b x y = bsel b' x y := by rw [h]
theorem bsel_eq {α : Type} {x y : α} {m n : Nat} : bsel (m == n) x y = if m = n then x else y := by
  by_cases e : m = n
  · simp [e, bsel]
  · rw [if_neg e, beq_false_of_ne e]; rfl

theorem Zcf {o : Option Value} {j i : Nat} {r : Tm} : gt (kc o j r) i = bsel (j == i) (o.or (gt r i)) (gt r i) := by
  rw [bsel_eq]
  cases o with
  | none => simp [kc]
  | some v => simp [kc, gt]

def oR (o : Option Res) [k : Bx (Value → Heap → Nat → Prop)] : Prop := match o with | some (v, h, l) => k.un v h l | none => False
theorem Zbw {v : Value} {h : Heap} {l : Nat} {k : Value → Heap → Nat → Prop} : @oR (some (v, h, l)) ⟨k⟩ = k v h l := rfl
theorem Zh5 {k : Value → Heap → Nat → Prop} : @oR none ⟨k⟩ = False := rfl

variable {M : Prog} {t : Tm} {h : Heap} {l : Nat}

theorem Wa.mono {f : FuncId} {args : List Value} {K K' : Value → Heap → Nat → Prop} (hw : @Wa M f args h ⟨K⟩) (hk : ∀ v h' l, K v h' l → K' v h' l) : @Wa M f args h ⟨K'⟩ := by
  obtain ⟨v, h', l, h1, h2⟩ := hw; exact ⟨v, h', l, h1, hk _ _ _ h2⟩
theorem Wc.mono {c : MCode} {K K' : Ex → Tm → Heap → Nat → Prop} (hw : @Wc M c t h l ⟨K⟩) (hk : ∀ e t' h' l', K e t' h' l' → K' e t' h' l') : @Wc M c t h l ⟨K'⟩ := by
  obtain ⟨e, t', h', l', h1, h2⟩ := hw; exact ⟨e, t', h', l', h1, hk _ _ _ _ h2⟩

def seqK (M : Prog) (b : MCode) (K : Ex → Tm → Heap → Nat → Prop) : Ex → Tm → Heap → Nat → Prop
  | .n, t, h, l => @Wc M b t h l ⟨K⟩
  | .x i, t, h, l => K (.x i) t h l
  | .r, t, h, l => K .r t h l

def blockK (i : Nat) (K : Ex → Tm → Heap → Nat → Prop) : Ex → Tm → Heap → Nat → Prop
  | .n, t, h, l => K .n t h l
  | .x j, t, h, l => if j = i then K .n t h l else K (.x j) t h l
  | .r, t, h, l => K .r t h l

theorem Zab {b : MCode} {K : Ex → Tm → Heap → Nat → Prop} : seqK M b K .n t h l = @Wc M b t h l ⟨K⟩ := rfl
theorem Zac {b : MCode} {K : Ex → Tm → Heap → Nat → Prop} {i : Nat} : seqK M b K (.x i) t h l = K (.x i) t h l := rfl
theorem Zad {b : MCode} {K : Ex → Tm → Heap → Nat → Prop} : seqK M b K .r t h l = K .r t h l := rfl
theorem Zah {i : Nat} {K : Ex → Tm → Heap → Nat → Prop} : blockK i K .n t h l = K .n t h l := rfl
theorem Zai {i j : Nat} {K : Ex → Tm → Heap → Nat → Prop} : blockK i K (.x j) t h l = if j = i then K .n t h l else K (.x j) t h l := rfl
theorem Zaj {i : Nat} {K : Ex → Tm → Heap → Nat → Prop} : blockK i K .r t h l = K .r t h l := rfl

theorem Zan {K : Ex → Tm → Heap → Nat → Prop} : @Wc M .skip t h l ⟨K⟩ = K .n t h l := by
  apply propext; unfold Wc; (rw [acode_eq, sCode]; try simp only [limF_call, limF_code, limF_ops, limF_one, limF_act]); exact ⟨fun ⟨_, _, _, _, h1, h2⟩ => by cases h1; exact h2, fun h2 => ⟨_, _, _, _, rfl, h2⟩⟩
theorem Zap {K : Ex → Tm → Heap → Nat → Prop} : @Wc M .ret t h l ⟨K⟩ = K .r t h l := by
  apply propext; unfold Wc; (rw [acode_eq, sCode]; try simp only [limF_call, limF_code, limF_ops, limF_one, limF_act]); exact ⟨fun ⟨_, _, _, _, h1, h2⟩ => by cases h1; exact h2, fun h2 => ⟨_, _, _, _, rfl, h2⟩⟩
theorem Zao {i : Nat} {K : Ex → Tm → Heap → Nat → Prop} : @Wc M (.exit i) t h l ⟨K⟩ = K (.x i) t h l := by
  apply propext; unfold Wc; (rw [acode_eq, sCode]; try simp only [limF_call, limF_code, limF_ops, limF_one, limF_act]); exact ⟨fun ⟨_, _, _, _, h1, h2⟩ => by cases h1; exact h2, fun h2 => ⟨_, _, _, _, rfl, h2⟩⟩
theorem Zaa {a b : MCode} {K : Ex → Tm → Heap → Nat → Prop} : @Wc M (.seq a b) t h l ⟨K⟩ = @Wc M a t h l ⟨seqK M b K⟩ := by
  apply propext
  unfold Wc
  (rw [acode_eq, sCode]; try simp only [limF_call, limF_code, limF_ops, limF_one, limF_act])
  constructor
  · rintro ⟨e, t', h', l', h1, h2⟩
    simp only [Option.bind_eq_bind, Option.bind_eq_some_iff] at h1
    obtain ⟨⟨e1, t1, h3, l3⟩, h4, h5⟩ := h1
    refine ⟨e1, t1, h3, l3, h4, ?_⟩
    cases e1 with
    | n => exact ⟨e, t', h', l', h5, h2⟩
    | x i => simp at h5; obtain ⟨rfl, rfl, rfl, rfl⟩ := h5; exact h2
    | r => simp at h5; obtain ⟨rfl, rfl, rfl, rfl⟩ := h5; exact h2
  · rintro ⟨e, t', h', l', h1, h2⟩
    cases e with
    | n => obtain ⟨e2, t2, h2', l2, k1, k2⟩ := h2; exact ⟨e2, t2, h2', l2, by simp [h1, k1], k2⟩
    | x i => exact ⟨.x i, t', h', l', by simp [h1], h2⟩
    | r => exact ⟨.r, t', h', l', by simp [h1], h2⟩
theorem Zag {i : Nat} {c : MCode} {K : Ex → Tm → Heap → Nat → Prop} : @Wc M (.block i c) t h l ⟨K⟩ = @Wc M c t h l ⟨blockK i K⟩ := by
  apply propext
  unfold Wc
  (rw [acode_eq, sCode]; try simp only [limF_call, limF_code, limF_ops, limF_one, limF_act])
  constructor
  · rintro ⟨e, t', h', l', h1, h2⟩
    simp only [Option.bind_eq_bind, Option.bind_eq_some_iff] at h1
    obtain ⟨⟨e1, t1, h3, l3⟩, h4, h5⟩ := h1
    refine ⟨e1, t1, h3, l3, h4, ?_⟩
    cases e1 with
    | n => simp at h5; obtain ⟨rfl, rfl, rfl, rfl⟩ := h5; exact h2
    | x j =>
      simp only at h5
      show if j = i then K .n t1 h3 l3 else K (.x j) t1 h3 l3
      split at h5
      · rename_i e; simp at h5; obtain ⟨rfl, rfl, rfl, rfl⟩ := h5; rw [if_pos e]; exact h2
      · rename_i e; simp at h5; obtain ⟨rfl, rfl, rfl, rfl⟩ := h5; rw [if_neg e]; exact h2
    | r => simp at h5; obtain ⟨rfl, rfl, rfl, rfl⟩ := h5; exact h2
  · rintro ⟨e, t', h', l', h1, h2⟩
    cases e with
    | n => exact ⟨.n, t', h', l', by simp [h1], h2⟩
    | x j =>
      have h2 : if j = i then K .n t' h' l' else K (.x j) t' h' l' := h2
      by_cases e : j = i
      · rw [if_pos e] at h2; exact ⟨.n, t', h', l', by simp [h1, e], h2⟩
      · rw [if_neg e] at h2; exact ⟨.x j, t', h', l', by simp [h1, e], h2⟩
    | r => exact ⟨.r, t', h', l', by simp [h1], h2⟩
theorem Zaf {c : Opd} {a b : MCode} {K : Ex → Tm → Heap → Nat → Prop} :
    @Wc M (.cond c a b) t h l ⟨K⟩ = @ob _ (ev t c) ⟨fun v => match v with | .bool x => if x = true then @Wc M a t h l ⟨K⟩ else @Wc M b t h l ⟨K⟩ | _ => False⟩ := by
  apply propext
  unfold Wc
  (rw [acode_eq, sCode]; try simp only [limF_call, limF_code, limF_ops, limF_one, limF_act])
  cases ev t c with
  | none => simp [ob]
  | some v =>
    cases v with
    | bool x => cases x <;> simp [ob]
    | _ => simp [ob]
theorem Zae {ops : List MOper} {keep : List Nat} {K : Ex → Tm → Heap → Nat → Prop} : @Wc M (.reg ops keep) t h l ⟨K⟩ = @Wo M ops t h l ⟨fun t h l => @nm _ (keepT t keep) ⟨fun t => @nm _ l ⟨fun l => K .n t h l⟩⟩⟩ := by
  apply propext
  unfold Wc Wo
  (rw [acode_eq, sCode]; try simp only [limF_call, limF_code, limF_ops, limF_one, limF_act])
  constructor
  · rintro ⟨e, t', h', l', h1, h2⟩
    simp only [Option.bind_eq_bind, Option.bind_eq_some_iff] at h1
    obtain ⟨⟨t1, h3, l3⟩, h4, h5⟩ := h1
    simp at h5; obtain ⟨rfl, rfl, rfl, rfl⟩ := h5
    exact ⟨t1, _, _, h4, h2⟩
  · rintro ⟨t', h', l', h1, h2⟩
    exact ⟨.n, _, h', l', by simp [h1], h2⟩

def loopK (I : Bx (Nat → Tm → Heap → Nat → Prop)) (n : Nat) (K : Ex → Tm → Heap → Nat → Prop) : Ex → Tm → Heap → Nat → Prop
  | .n, t, h, l => ∃ n', n' < n ∧ I.un n' t h l
  | .x i, t, h, l => K (.x i) t h l
  | .r, t, h, l => K .r t h l
def again [I : Bx (Nat → Tm → Heap → Nat → Prop)] (n : Nat) (t : Tm) (h : Heap) (l : Nat) : Prop := ∃ n', n' < n ∧ I.un n' t h l
theorem again_eq {I : Nat → Tm → Heap → Nat → Prop} {n : Nat} : @again ⟨I⟩ n t h l = ∃ n', n' < n ∧ I n' t h l := rfl
theorem again.mk {I : Nat → Tm → Heap → Nat → Prop} {n : Nat} (n' : Nat) (h1 : n' < n) (h2 : I n' t h l) : @again ⟨I⟩ n t h l := ⟨n', h1, h2⟩
theorem Zak {I : Bx (Nat → Tm → Heap → Nat → Prop)} {n : Nat} {K : Ex → Tm → Heap → Nat → Prop} : loopK I n K .n t h l = @again I n t h l := rfl
theorem Zal {I : Bx (Nat → Tm → Heap → Nat → Prop)} {n i : Nat} {K : Ex → Tm → Heap → Nat → Prop} : loopK I n K (.x i) t h l = K (.x i) t h l := rfl
theorem Zam {I : Bx (Nat → Tm → Heap → Nat → Prop)} {n : Nat} {K : Ex → Tm → Heap → Nat → Prop} : loopK I n K .r t h l = K .r t h l := rfl

theorem Wc_loop {c : MCode} {K : Ex → Tm → Heap → Nat → Prop} (I : Nat → Tm → Heap → Nat → Prop) (n : Nat) (h0 : I n t h l)
    (hs : ∀ n t h l, I n t h l → @Wc M c t h l ⟨loopK ⟨I⟩ n K⟩) : @Wc M (.loop c) t h l ⟨K⟩ := by
  induction n using Nat.strongRecOn generalizing t h l with
  | _ n ih =>
    obtain ⟨e, t', h', l', h1, h2⟩ := hs n t h l h0
    cases e with
    | n =>
      obtain ⟨n', h3, h4⟩ := h2
      obtain ⟨e2, t2, h2', l2, k1, k2⟩ := ih n' h3 h4
      exact ⟨e2, t2, h2', l2, by (rw [acode_eq, sCode]; try simp only [limF_call, limF_code, limF_ops, limF_one, limF_act]); simp [h1, k1], k2⟩
    | x i => exact ⟨.x i, t', h', l', by (rw [acode_eq, sCode]; try simp only [limF_call, limF_code, limF_ops, limF_one, limF_act]); simp [h1], h2⟩
    | r => exact ⟨.r, t', h', l', by (rw [acode_eq, sCode]; try simp only [limF_call, limF_code, limF_ops, limF_one, limF_act]); simp [h1], h2⟩

theorem gt_put {t : Tm} {d i : Nat} {v : Value} : gt (put t (some d) v) i = if d = i then some v else gt t i := rfl
theorem gt_cons {t : Tm} {d i : Nat} {v : Value} : gt ((d, v) :: t) i = if d = i then some v else gt t i := rfl
theorem put_some {t : Tm} {d : Nat} {v : Value} : put t (some d) v = (d, v) :: t := rfl
theorem put_none {t : Tm} {v : Value} : put t none v = t := rfl
theorem Zas {K : Tm → Heap → Nat → Prop} : @Wo M [] t h l ⟨K⟩ = K t h l := by
  apply propext; unfold Wo; (rw [aops_eq, sOps]; try simp only [limF_call, limF_code, limF_ops, limF_one, limF_act]); exact ⟨fun ⟨_, _, _, h1, h2⟩ => by cases h1; exact h2, fun h2 => ⟨_, _, _, rfl, h2⟩⟩

theorem apartAll_nil' {t : Tm} : ∀ {xs : List Opd}, apartAll t xs [] = true
  | [] => rfl
  | x :: xs => by simp only [apartAll, apart1, Bool.true_and]; exact apartAll_nil'

theorem tell_nil {o : MOp} {t : Tm} {h h' : Heap} : tell o t h h' [] := by
  unfold tell
  split
  · trivial
  · exact apartAll_nil'

theorem Wo_consC {d : Option Nat} {o : MOp} {b : Bool} {c : List Opd} {r : List MOper} {K : Tm → Heap → Nat → Prop} : @Wo M (⟨d, o, none, b, c⟩ :: r) t h l ⟨K⟩ =
    @Wd M o t h ⟨fun v h' l' => ((h.length ≤ l' ∨ b = true) ∧ tell o t h h' c) ∧ @Wo M r (put t d v) h' (min l l') ⟨K⟩⟩ := by
  apply propext
  unfold Wo Wd
  (rw [aops_eq, sOps]; try simp only [limF_call, limF_code, limF_ops, limF_one, limF_act])
  try simp only
  (rw [aone_eq, sOne]; try simp only [limF_call, limF_code, limF_ops, limF_one, limF_act])
  constructor
  · rintro ⟨t', h', l', h1, h2⟩
    simp only [Option.bind_eq_bind, Option.bind_eq_some_iff] at h1
    obtain ⟨⟨v, h3, l3⟩, h4, h5⟩ := h1
    split at h5
    · rename_i hc; exact ⟨v, h3, l3, h4, hc, t', h', l', h5, h2⟩
    · cases h5
  · rintro ⟨v, h3, l3, h4, hc, t', h', l', h5, h2⟩
    refine ⟨t', h', l', ?_, h2⟩
    simp only [h4, Option.bind_eq_bind, Option.bind_some]
    rw [if_pos hc]; exact h5

theorem Zaq {d : Option Nat} {o : MOp} {b : Bool} {r : List MOper} {K : Tm → Heap → Nat → Prop} : @Wo M (⟨d, o, none, b, []⟩ :: r) t h l ⟨K⟩ =
    @Wd M o t h ⟨fun v h' l' => (h.length ≤ l' ∨ b = true) ∧ @Wo M r (put t d v) h' (min l l') ⟨K⟩⟩ := by
  rw [Wo_consC]
  congr 2
  funext v h' l'
  simp [tell_nil]

theorem Zar {d : Option Nat} {o : MOp} {b : Bool} {y : Opd} {c : List Opd} {r : List MOper} {K : Tm → Heap → Nat → Prop} : @Wo M (⟨d, o, none, b, y :: c⟩ :: r) t h l ⟨K⟩ =
    @Wd M o t h ⟨fun v h' l' => ((h.length ≤ l' ∨ b = true) ∧ tell o t h h' (y :: c)) ∧ @Wo M r (put t d v) h' (min l l') ⟨K⟩⟩ := Wo_consC

theorem Zat {d : Option Nat} {o : MOp} {g : Nat} {w b : Bool} {c : List Opd} {r : List MOper} {K : Tm → Heap → Nat → Prop} : @Wo M (⟨d, o, some (g, w), b, c⟩ :: r) t h l ⟨K⟩ =
    @ob _ (gt t g) ⟨fun v => match v with | .bool x => if x = w then @Wo M (⟨d, o, none, b, c⟩ :: r) t h l ⟨K⟩ else @Wo M r (put t d undefV) h l ⟨K⟩ | _ => @Wo M r (put t d undefV) h l ⟨K⟩⟩ := by
  apply propext
  unfold Wo
  (rw [aops_eq, sOps]; try simp only [limF_call, limF_code, limF_ops, limF_one, limF_act])
  try simp only
  cases gt t g with
  | none => simp [ob]
  | some v =>
    cases v with
    | bool x =>
      simp only [ob]
      by_cases e : x = w
      · simp only [e, if_true]
        (rw [aops_eq, sOps]; try simp only [limF_call, limF_code, limF_ops, limF_one, limF_act])
        try simp only
        (rw [aone_eq, aone_eq, sOne, sOne]; try simp only [limF_call, limF_code, limF_ops, limF_one, limF_act])
      · simp only [if_neg e]
    | _ => simp only [ob]

theorem Zau {f : FuncId} {args : List Opd} {K : Value → Heap → Nat → Prop} : @Wd M (.call f args) t h ⟨K⟩ = @ob _ (evs t args) ⟨fun vs => @Wa M f vs h ⟨K⟩⟩ := by
  apply propext; unfold Wd Wa; (rw [ado_eq, sDo]; try simp only [limF_call, limF_code, limF_ops, limF_one, limF_act])
  cases evs t args with
  | none => simp [ob]
  | some vs => simp [ob]

theorem Zav {f : Opd} {args : List Opd} {K : Value → Heap → Nat → Prop} : @Wd M (.callv f args) t h ⟨K⟩ = @ob _ (ev t f) ⟨fun fv => @ob _ (evs t args) ⟨fun vs =>
    match fv with | .func (.func g) fs cs => @Wa M g (fs.toList ++ vs ++ cs.toList) h ⟨K⟩ | _ => False⟩⟩ := by
  apply propext; unfold Wd Wa; (rw [ado_eq, sDo]; try simp only [limF_call, limF_code, limF_ops, limF_one, limF_act])
  cases ev t f with
  | none => simp [ob]
  | some fv =>
    cases evs t args with
    | none => simp [ob]
    | some vs =>
      simp only [ob, Option.bind_eq_bind, Option.bind_some]
      split <;> simp

theorem Wd_aop {o : MOp} {K : Value → Heap → Nat → Prop} (ho : o.isCall = false) : @Wd M o t h ⟨K⟩ = @oR (aop t h o) ⟨K⟩ := by
  apply propext; unfold Wd
  have : ado M o t h = aop t h o := by cases o <;> first | (simp [MOp.isCall] at ho; done) | ((rw [ado_eq, sDo]; try simp only [limF_call, limF_code, limF_ops, limF_one, limF_act]) <;> simp)
  rw [this]
  cases aop t h o with
  | none => simp [oR]
  | some r => exact ⟨fun ⟨_, _, _, h1, h2⟩ => by cases h1; exact h2, fun h2 => ⟨_, _, _, rfl, h2⟩⟩

theorem Zaw {k args : _} {K : Value → Heap → Nat → Prop} : @Wd M (.xt k args) t h ⟨K⟩ = @oR (aop t h (.xt k args)) ⟨K⟩ := Wd_aop rfl
theorem Zax {x : _} {K : Value → Heap → Nat → Prop} : @Wd M (.mv x) t h ⟨K⟩ = @oR (aop t h (.mv x)) ⟨K⟩ := Wd_aop rfl
theorem Zay {c a b : _} {K : Value → Heap → Nat → Prop} : @Wd M (.pick c a b) t h ⟨K⟩ = @oR (aop t h (.pick c a b)) ⟨K⟩ := Wd_aop rfl
theorem Zaz {zs : _} {K : Value → Heap → Nat → Prop} : @Wd M (.new zs) t h ⟨K⟩ = @oR (aop t h (.new zs)) ⟨K⟩ := Wd_aop rfl
theorem Za0 {x : _} {K : Value → Heap → Nat → Prop} : @Wd M (.box x) t h ⟨K⟩ = @oR (aop t h (.box x)) ⟨K⟩ := Wd_aop rfl
theorem Za1 {zs parts : _} {K : Value → Heap → Nat → Prop} : @Wd M (.build zs parts) t h ⟨K⟩ = @oR (aop t h (.build zs parts)) ⟨K⟩ := Wd_aop rfl
theorem Za2 {sz len zs parts : _} {K : Value → Heap → Nat → Prop} : @Wd M (.bslice sz len zs parts) t h ⟨K⟩ = @oR (aop t h (.bslice sz len zs parts)) ⟨K⟩ := Wd_aop rfl
theorem Za3 {n a : _} {K : Value → Heap → Nat → Prop} : @Wd M (.load n a) t h ⟨K⟩ = @oR (aop t h (.load n a)) ⟨K⟩ := Wd_aop rfl
theorem Za4 {n a x : _} {K : Value → Heap → Nat → Prop} : @Wd M (.store n a x) t h ⟨K⟩ = @oR (aop t h (.store n a x)) ⟨K⟩ := Wd_aop rfl
theorem Za5 {x : _} {K : Value → Heap → Nat → Prop} : @Wd M (.nilck x) t h ⟨K⟩ = @oR (aop t h (.nilck x)) ⟨K⟩ := Wd_aop rfl
theorem Za6 {op x y : _} {K : Value → Heap → Nat → Prop} : @Wd M (.bin op x y) t h ⟨K⟩ = @oR (aop t h (.bin op x y)) ⟨K⟩ := Wd_aop rfl
theorem Za7 {neg x y : _} {K : Value → Heap → Nat → Prop} : @Wd M (.eqb neg x y) t h ⟨K⟩ = @oR (aop t h (.eqb neg x y)) ⟨K⟩ := Wd_aop rfl
theorem Za8 {neg ks x y : _} {K : Value → Heap → Nat → Prop} : @Wd M (.eqs neg ks x y) t h ⟨K⟩ = @oR (aop t h (.eqs neg ks x y)) ⟨K⟩ := Wd_aop rfl
theorem Za9 {op x : _} {K : Value → Heap → Nat → Prop} : @Wd M (.un op x) t h ⟨K⟩ = @oR (aop t h (.un op x)) ⟨K⟩ := Wd_aop rfl
theorem Zba {k x : _} {K : Value → Heap → Nat → Prop} : @Wd M (.conv k x) t h ⟨K⟩ = @oR (aop t h (.conv k x)) ⟨K⟩ := Wd_aop rfl
theorem Zbb {x : _} {K : Value → Heap → Nat → Prop} : @Wd M (.s2b x) t h ⟨K⟩ = @oR (aop t h (.s2b x)) ⟨K⟩ := Wd_aop rfl
theorem Zbc {x : _} {K : Value → Heap → Nat → Prop} : @Wd M (.b2s x) t h ⟨K⟩ = @oR (aop t h (.b2s x)) ⟨K⟩ := Wd_aop rfl
theorem Zbd {off x : _} {K : Value → Heap → Nat → Prop} : @Wd M (.faddr off x) t h ⟨K⟩ = @oR (aop t h (.faddr off x)) ⟨K⟩ := Wd_aop rfl
theorem Zbe {off n x : _} {K : Value → Heap → Nat → Prop} : @Wd M (.part off n x) t h ⟨K⟩ = @oR (aop t h (.part off n x)) ⟨K⟩ := Wd_aop rfl
theorem Zbf {sz x i : _} {K : Value → Heap → Nat → Prop} : @Wd M (.iaddr sz x i) t h ⟨K⟩ = @oR (aop t h (.iaddr sz x i)) ⟨K⟩ := Wd_aop rfl
theorem Zbg {x i : _} {K : Value → Heap → Nat → Prop} : @Wd M (.istr x i) t h ⟨K⟩ = @oR (aop t h (.istr x i)) ⟨K⟩ := Wd_aop rfl
theorem Zbh {x lo hi : _} {K : Value → Heap → Nat → Prop} : @Wd M (.slstr x lo hi) t h ⟨K⟩ = @oR (aop t h (.slstr x lo hi)) ⟨K⟩ := Wd_aop rfl
theorem Zbi {sz x lo hi : _} {K : Value → Heap → Nat → Prop} : @Wd M (.slsl sz x lo hi) t h ⟨K⟩ = @oR (aop t h (.slsl sz x lo hi)) ⟨K⟩ := Wd_aop rfl
theorem Zbj {sz bytes zs n c : _} {K : Value → Heap → Nat → Prop} : @Wd M (.mkslice sz bytes zs n c) t h ⟨K⟩ = @oR (aop t h (.mkslice sz bytes zs n c)) ⟨K⟩ := Wd_aop rfl
theorem Zbk {x i : _} {K : Value → Heap → Nat → Prop} : @Wd M (.ext x i) t h ⟨K⟩ = @oR (aop t h (.ext x i)) ⟨K⟩ := Wd_aop rfl
theorem Zbl {x : _} {K : Value → Heap → Nat → Prop} : @Wd M (.len x) t h ⟨K⟩ = @oR (aop t h (.len x)) ⟨K⟩ := Wd_aop rfl
theorem Zbm {x : _} {K : Value → Heap → Nat → Prop} : @Wd M (.lens x) t h ⟨K⟩ = @oR (aop t h (.lens x)) ⟨K⟩ := Wd_aop rfl
theorem Zbn {x : _} {K : Value → Heap → Nat → Prop} : @Wd M (.cs x) t h ⟨K⟩ = @oR (aop t h (.cs x)) ⟨K⟩ := Wd_aop rfl
theorem Zbo {sz bytes x y : _} {K : Value → Heap → Nat → Prop} : @Wd M (.app sz bytes x y) t h ⟨K⟩ = @oR (aop t h (.app sz bytes x y)) ⟨K⟩ := Wd_aop rfl
theorem Zbp {x : _} {K : Value → Heap → Nat → Prop} : @Wd M (.rng x) t h ⟨K⟩ = @oR (aop t h (.rng x)) ⟨K⟩ := Wd_aop rfl
theorem Zbq {x : _} {K : Value → Heap → Nat → Prop} : @Wd M (.next x) t h ⟨K⟩ = @oR (aop t h (.next x)) ⟨K⟩ := Wd_aop rfl
theorem Zbr {f first captured : _} {K : Value → Heap → Nat → Prop} : @Wd M (.fn f first captured) t h ⟨K⟩ = @oR (aop t h (.fn f first captured)) ⟨K⟩ := Wd_aop rfl

def fin (h0 : Heap) (v : Value) (h : Heap) (l : Nat) [K : Bx (Value → Heap → Nat → Prop)] : Prop := if h0.length ≤ l ∧ flat v = true then K.un v h0 h0.length else K.un v h l

theorem fin_eq {h0 : Heap} {v : Value} {K : Value → Heap → Nat → Prop} (hf : @fin h0 v h l ⟨K⟩) : ∃ v' h' l', finish h0 v h l = (v', h', l') ∧ K v' h' l' := by
  unfold fin at hf
  unfold finish
  split at hf
  · rename_i hc; exact ⟨_, _, _, by rw [if_pos hc], hf⟩
  · rename_i hc; exact ⟨_, _, _, by rw [if_neg hc], hf⟩

def retK (h0 : Heap) (rs : List MRes) (K : Value → Heap → Nat → Prop) : Ex → Tm → Heap → Nat → Prop
  | .x _, _, _, _ => False
  | _, t, h, l => @ob _ (ares t h rs) ⟨fun vs => @fin h0 (oneOr vs) h l ⟨K⟩⟩

theorem Zbt {h0 : Heap} {rs : List MRes} {K : Value → Heap → Nat → Prop} : retK h0 rs K .n t h l = @ob _ (ares t h rs) ⟨fun vs => @fin h0 (oneOr vs) h l ⟨K⟩⟩ := rfl
theorem Zbs {h0 : Heap} {rs : List MRes} {K : Value → Heap → Nat → Prop} : retK h0 rs K .r t h l = @ob _ (ares t h rs) ⟨fun vs => @fin h0 (oneOr vs) h l ⟨K⟩⟩ := rfl

theorem Wa_of {f : FuncId} {mf : MFunc} {args : List Value} {K : Value → Heap → Nat → Prop} (hm : M f = some mf) (hw : @Wc M mf.body (argT 0 args) h h.length ⟨retK h mf.results K⟩) : @Wa M f args h ⟨K⟩ := by
  obtain ⟨e, t', h', l', h1, h2⟩ := hw
  have h2 : retK h mf.results K e t' h' l' := h2
  unfold Wa
  (rw [acall_eq, sCall, hm]; try simp only [limF_call, limF_code, limF_ops, limF_one, limF_act])
  simp only [Option.bind_eq_bind, Option.bind_some, h1]
  cases e with
  | x i => exact h2.elim
  | n =>
    rw [Zbt] at h2
    cases ha : ares t' h' mf.results with
    | none => rw [ha] at h2; exact h2.elim
    | some vs => rw [ha] at h2; obtain ⟨v', h'', l'', k1, k2⟩ := fin_eq h2; exact ⟨v', h'', l'', by simp only [ha, Option.bind_some, k1], k2⟩
  | r =>
    rw [Zbs] at h2
    cases ha : ares t' h' mf.results with
    | none => rw [ha] at h2; exact h2.elim
    | some vs => rw [ha] at h2; obtain ⟨v', h'', l'', k1, k2⟩ := fin_eq h2; exact ⟨v', h'', l'', by simp only [ha, Option.bind_some, k1], k2⟩

def Pu (M : Prog) (f : FuncId) (args : List Value) (v : Value) : Prop := ∀ h, acall M f args h = some (v, h, h.length)

theorem Pu.wa {f : FuncId} {args : List Value} {v : Value} (hp : Pu M f args v) {K : Value → Heap → Nat → Prop} : @Wa M f args h ⟨K⟩ = K v h h.length := by
  apply propext; unfold Wa; rw [hp h]; exact ⟨fun ⟨_, _, _, h1, h2⟩ => by cases h1; exact h2, fun h2 => ⟨_, _, _, rfl, h2⟩⟩

theorem Pu.mk {f : FuncId} {args : List Value} {v : Value} (hw : ∀ h, @Wa M f args h ⟨fun v' h' l => v' = v ∧ h' = h ∧ l = h.length⟩) : Pu M f args v := by
  intro h
  obtain ⟨v', h', l, h1, rfl, rfl, rfl⟩ := hw h
  exact h1

end Go.AM
