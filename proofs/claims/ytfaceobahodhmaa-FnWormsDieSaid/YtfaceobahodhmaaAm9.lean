/- Simulation of single operations, part six: bytes to a string, equality of structs, iterators, stand-ins. -/
import Derived.Test.YtfaceobahodhmaaAm8
import Derived.Laws.Externs
set_option maxHeartbeats 4000000
set_option maxRecDepth 100000
namespace Go.AM
set_option linter.unusedVariables false
set_option linter.unusedSimpArgs false
variable {P : Program} {N : Nat} {o : Oper} {t : Tm} {h : Heap}

theorem fold_push : ∀ (ns : List Int) (r : ByteArray), ns.foldl (fun r n => r.push (UInt8.ofNat n.toNat)) r = ⟨r.data ++ (ns.map fun n => UInt8.ofNat n.toNat).toArray⟩
  | [], r => by simp
  | n :: ns, r => by
    rw [List.foldl_cons, fold_push ns]
    congr 1
    apply Array.ext'
    simp [ByteArray.push]

theorem vBytes_spec : ∀ (vs : List Value) (l : List UInt8), vBytes vs = some l → ∃ ns : List Int, vs = ns.map (Value.int .u8) ∧ l = ns.map fun n => UInt8.ofNat n.toNat
  | [], l, h => by cases h; exact ⟨[], rfl, rfl⟩
  | .int k n :: vs, l, h => by
    cases k <;> simp only [vBytes, Option.map_eq_some_iff] at h <;> first | (cases h; done) | skip
    obtain ⟨l', hl, rfl⟩ := h
    obtain ⟨ns, h1, h2⟩ := vBytes_spec vs l' hl
    exact ⟨n :: ns, by simp [h1], by simp [h2]⟩
  | .bool _ :: _, _, h | .float .. :: _, _, h | .complex .. :: _, _, h | .string _ :: _, _, h | .pointer _ :: _, _, h | .slice .. :: _, _, h | .map _ :: _, _, h | .chan _ :: _, _, h
  | .func .. :: _, _, h | .nilFunc :: _, _, h | .iface .. :: _, _, h | .nilIface :: _, _, h | .agg _ :: _, _, h | .tuple _ :: _, _, h => by simp [vBytes] at h

theorem ints_rel {ρ : Rho} : ∀ (ns : List Int) (us : List Value), VRelL ρ (ns.map (Value.int .u8)) us → us = ns.map (Value.int .u8)
  | [], us, h => h.nil_inv
  | n :: ns, us, h => by
    obtain ⟨y, ys, rfl, h1, h2⟩ := VRelL.cons_inv h
    cases h1
    rw [ints_rel ns ys h2]
    rfl

theorem sim_b2s {src dst e : TypeId} {x : Operand} {y : Opd} {r : Res} (ho : o.op = .convert src dst x) (hs : P.underlying src = some (.slice e)) (he : P.underlying e = some (.int .u8)) (hd : P.underlying dst = some .string) (hx : cOpd x = some y)
    (hr : aop t h (.b2s y) = some r) : OpSim P N o t h r := by
  simp only [aop, Option.bind_eq_some_iff] at hr
  obtain ⟨xv, hxv, hr⟩ := hr
  split at hr
  · cases hr
    refine .pure fun ρ a w hdm hw ht => ?_
    have r1 := opd_rel ht hx hxv
    generalize hq : a.eval x = q at r1
    cases r1 with
    | sl0 aa =>
      refine ⟨.string ⟨#[]⟩, ?_, .str _⟩
      cases aa with
      | none => simp [execOp, ho, hq, convert, run_underlying hs, run_underlying hd, run_underlying he, Conv.bytesToString]; rfl
      | some aa =>
        have := run_bytesToString (P := P) w aa 0 0 [] (by simp [loadCells, loadCellsFrom])
        simp [execOp, ho, hq, convert, run_underlying hs, run_underlying hd, run_underlying he, this]
        rfl
  · simp only [Option.bind_eq_some_iff] at hr
    obtain ⟨⟨vs, rw⟩, hl, hr⟩ := hr
    simp only at hr
    split at hr
    · rename_i hle
      simp only [Option.bind_eq_some_iff] at hr
      obtain ⟨l, hvb, hr⟩ := hr
      cases hr
      obtain ⟨ns, hns, rfl⟩ := vBytes_spec _ _ hvb
      refine .pure fun ρ a w hdm hw ht => ?_
      have r1 := opd_rel ht hx hxv
      generalize hq : a.eval x = q at r1
      refine ⟨.string ⟨(ns.map fun n => UInt8.ofNat n.toNat).toArray⟩, ?_, .str _⟩
      have hfin : ns.foldl (fun r n => r.push (UInt8.ofNat n.toNat)) ByteArray.empty = ⟨(ns.map fun n => UInt8.ofNat n.toNat).toArray⟩ := by
        rw [fold_push]; congr 1; apply Array.ext'; rw [Array.toList_append]; rfl
      cases r1 with
      | sl hr1 hn1 hc1 =>
        obtain ⟨hb, hok⟩ := look_rel hw hr1 hl
        obtain ⟨us, k1, k2, k3, k4⟩ := hok.cells _ _ hle
        rw [hns] at k2
        have hus := ints_rel ns us k2
        have hload := run_loadCells_list (P := P) w ⟨_, _, none⟩ us (fun j u hj => by rw [add_off]; exact k3 j u hj)
        rw [k1, hus] at hload
        have := fun cap => run_bytesToString (P := P) w _ _ cap ns hload
        rw [hfin] at this
        simp only [execOp, ho, hq]
        simp [convert, run_underlying hs, run_underlying hd, run_underlying he, this]
      | slE aa hr1 =>
        have hns0 : ns = [] := by
          have h5 := congrArg List.length hns
          simp at h5
          exact List.eq_nil_of_length_eq_zero h5.symm
        subst hns0
        cases aa with
        | none => simp [execOp, ho, hq, convert, run_underlying hs, run_underlying hd, run_underlying he, Conv.bytesToString]; rfl
        | some aa =>
          have := run_bytesToString (P := P) w aa 0 0 [] (by simp [loadCells, loadCellsFrom])
          simp [execOp, ho, hq, convert, run_underlying hs, run_underlying hd, run_underlying he, this]
          rfl
    · cases hr
  · cases hr

theorem sim_next {x : Operand} {y : Opd} {r : Res} (ho : o.op = .next x true) (hx : cOpd x = some y) (hr : aop t h (.next y) = some r) : OpSim P N o t h r := by
  simp only [aop, Option.bind_eq_some_iff] at hr
  obtain ⟨xv, hxv, hr⟩ := hr
  split at hr
  · rename_i b
    split at hr
    · rename_i s pos hb
      split at hr
      · rename_i hlt
        cases hr
        refine .mk fun ρ a w hdm hw ht => ?_
        have r1 := opd_rel ht hx hxv
        generalize hq : a.eval x = q at r1
        cases r1 with
        | ptr hr1 =>
          rename_i c d sz
          obtain ⟨hh, rfl⟩ := hw.iter b c d sz s pos hr1 hb
          have hclt : c < w.heap.size := (Array.getElem?_eq_some_iff.1 hh).1
          have hp := Post.turnIter (w' := { w with heap := w.heap.setIfInBounds c (.stringIter s (pos + (Utf8.decode s pos).2)) }) (pos' := pos + (Utf8.decode s pos).2) hdm hw hr1 hb (by simp) (by simp [hclt]) (fun k hk => by simp [Array.getElem?_setIfInBounds, Ne.symm hk]) rfl rfl rfl
          refine ⟨ρ, .tuple #[.bool true, .int .i64 pos, .int .i32 (Utf8.decode s pos).1], _, ?_, hp, ?_⟩
          · simp [execOp, ho, hq, Instr.next, getObj, setObj, Sem.run, hh, hlt, goInt]
          · refine .tuple rfl fun i u v hu hv => ?_
            rw [hu] at hv; cases hv
            match i, hu with
            | 0, hu => simp at hu; subst hu; exact .bool _
            | 1, hu => simp at hu; subst hu; exact .int _ _
            | 2, hu => simp at hu; subst hu; exact .int _ _
            | i + 3, hu => simp at hu
      · rename_i hlt
        cases hr
        refine .pure fun ρ a w hdm hw ht => ?_
        have r1 := opd_rel ht hx hxv
        generalize hq : a.eval x = q at r1
        cases r1 with
        | ptr hr1 =>
          rename_i c d sz
          obtain ⟨hh, rfl⟩ := hw.iter b c d sz s pos hr1 hb
          refine ⟨.tuple #[.bool false], ?_, .tuple rfl fun i u v hu hv => ?_⟩
          · simp [execOp, ho, hq, Instr.next, getObj, Sem.run, hh, hlt]
          · rw [hu] at hv; cases hv
            match i, hu with
            | 0, hu => simp at hu; subst hu; exact .bool _
            | i + 1, hu => simp at hu
    · cases hr
  · cases hr

def ExtOK (P : Program) (X : Ext) : Prop := ∀ f k, X f = some k → ∃ fn, P.funcs[f]? = some fn ∧ (fn.name == "runtime.NumGoroutine") = false ∧ fn.body.isNone = true ∧ Extern.findNext fn = none ∧
  Extern.find fn = some (match k with | .count => Extern.BytealgCount.count | .indexByte => Extern.BytealgIndexByte.indexByte)

theorem sim_xt {X : Ext} (hX : ExtOK P X) {f : FuncId} {k : XKind} {args : Array Operand} {ts : Array TypeId} {ys : List Opd} {vs : List Value} {v : Value} (ho : o.op = .call { callee := .value (.func f), args, argTypes := ts }) (hf : X f = some k)
    (hx : cOpds args.toList = some ys) (hv : evs t ys = some vs) (hr : axt k vs = some v) : OpSim P N o t h (v, h, h.length) := by
  obtain ⟨fn, h1, h2, h3, h4, h5⟩ := hX f k hf
  refine .pure fun ρ a w hdm hw ht => ?_
  have rl := opds_rel ht hx hv
  have hcall : ∀ (e : Array Value → Sem Value) (v' : Value), Extern.find fn = some e → (e (args.map a.eval)).run P w = .ok v' w → (execOp a.eval o).run P w = .ok (.value v') w := by
    intro e v' he hrun
    simp only [execOp, ho]
    have : (callFunc f (args.map a.eval)).run P w = .ok (.value v') w := by
      rw [run_callFunc_extern h1 h2 h3 h4 he, hrun]; rfl
    simp [resolve, Deferred.ofValue, invoke, Act.eval, this]
  unfold axt at hr
  split at hr
  · rename_i s c
    cases hr
    obtain ⟨y1, l1, e1, r1, rl⟩ := rl.cons_inv
    obtain ⟨y2, l2, rfl, r2, rl⟩ := rl.cons_inv
    have := rl.nil_inv
    subst this
    cases r1; cases r2
    have ea : args.map a.eval = #[.string s, .int .u8 c] := by apply Array.ext'; simpa using e1
    refine ⟨_, hcall _ _ h5 (by rw [ea]; exact Lib.run_countString s c w), .int _ _⟩
  · rename_i s c
    cases hr
    obtain ⟨y1, l1, e1, r1, rl⟩ := rl.cons_inv
    obtain ⟨y2, l2, rfl, r2, rl⟩ := rl.cons_inv
    have := rl.nil_inv
    subst this
    cases r1; cases r2
    have ea : args.map a.eval = #[.string s, .int .u8 c] := by apply Array.ext'; simpa using e1
    refine ⟨_, hcall _ _ h5 (by rw [ea]; exact Lib.run_indexByteString s c w), .int _ _⟩
  · cases hr

theorem eqCells_len : ∀ (ks : List EqK) (xs ys : List Value) (b : Bool), eqCells ks xs ys = some b → xs.length = ks.length ∧ ys.length = ks.length
  | [], xs, ys, b, h => by cases xs <;> cases ys <;> simp [eqCells] at h ⊢
  | k :: ks, [], ys, b, h => by cases k <;> cases ys <;> simp [eqCells] at h
  | k :: ks, x :: xs, [], b, h => by cases k <;> cases x <;> simp [eqCells] at h
  | k :: ks, x :: xs, y :: ys, b, h => by
    cases k <;> cases x <;> cases y <;> simp only [eqCells] at h <;> first
      | (cases h; done)
      | (split at h
         · simp only [Option.map_eq_some_iff] at h
           obtain ⟨r, hr, _⟩ := h
           have := eqCells_len ks xs ys r hr
           simp [this.1, this.2]
         · cases h)
      | (simp only [Option.map_eq_some_iff] at h
         obtain ⟨r, hr, _⟩ := h
         have := eqCells_len ks xs ys r hr
         simp [this.1, this.2])

theorem eqCells_append : ∀ (k1 k2 : List EqK) (xs ys : List Value) (b : Bool), eqCells (k1 ++ k2) xs ys = some b →
    ∃ b1 b2, eqCells k1 (xs.take k1.length) (ys.take k1.length) = some b1 ∧ eqCells k2 (xs.drop k1.length) (ys.drop k1.length) = some b2 ∧ b = (b1 && b2)
  | [], k2, xs, ys, b, h => ⟨true, b, by simp [eqCells], by simpa using h, by simp⟩
  | k :: k1, k2, xs, ys, b, h => by
    cases xs with
    | nil => have := (eqCells_len _ _ _ _ h).1; simp at this
    | cons x xs =>
      cases ys with
      | nil => have := (eqCells_len _ _ _ _ h).2; simp at this
      | cons y ys =>
        rw [List.cons_append] at h
        cases k <;> cases x <;> cases y <;> simp only [eqCells] at h <;> first
          | (cases h; done)
          | (split at h
             · rename_i hc
               simp only [Option.map_eq_some_iff] at h
               obtain ⟨r, hr, rfl⟩ := h
               obtain ⟨b1, b2, e1, e2, rfl⟩ := eqCells_append k1 k2 xs ys r hr
               refine ⟨(_ && b1), b2, ?_, by simpa using e2, (Bool.and_assoc _ _ _).symm⟩
               simp [eqCells, hc, e1]
             · cases h)
          | (simp only [Option.map_eq_some_iff] at h
             obtain ⟨r, hr, rfl⟩ := h
             obtain ⟨b1, b2, e1, e2, rfl⟩ := eqCells_append k1 k2 xs ys r hr
             refine ⟨(_ && b1), b2, ?_, by simpa using e2, (Bool.and_assoc _ _ _).symm⟩
             simp [eqCells, e1])

def wrapV (P : Program) (t : TypeId) (xs : List Value) : Value :=
  match P.underlying t with
  | some (.struct _) => .agg xs.toArray
  | _ => xs.headD undef

theorem run_eqFs (w : World) (D : Nat) (sub : TypeId → Option (List EqK))
    (hsub : ∀ t ks xs ys b, sub t = some ks → eqCells ks xs ys = some b → (Op.equalIn D t (wrapV P t xs) (wrapV P t ys)).run P w = .ok b w)
    (hkind : ∀ t ks, sub t = some ks → (∃ fs, P.underlying t = some (.struct fs)) ∨ (ks.length = 1 ∧ ∃ d, P.underlying t = some d ∧ isAggD d = false))
    (XS YS : List Value) : ∀ (fs : List Field) (off : Nat) (ks : List EqK) (b : Bool), eqFs P sub fs off = some ks → eqCells ks (XS.drop off) (YS.drop off) = some b → (Op.eqFields D XS.toArray YS.toArray fs).run P w = .ok b w
  | [], off, ks, b, h, he => by
    cases h
    have : b = true := by
      have h1 := eqCells_len _ _ _ _ he
      have e1 : XS.drop off = [] := List.eq_nil_of_length_eq_zero h1.1
      have e2 : YS.drop off = [] := List.eq_nil_of_length_eq_zero h1.2
      rw [e1, e2] at he
      simp [eqCells] at he
      exact he
    subst this
    simp [Op.eqFields]
  | f :: fs, off, ks, b, h, he => by
    simp only [eqFs] at h
    split at h
    · cases h
    · rename_i hc
      simp only [not_or, Classical.not_not] at hc
      obtain ⟨hname, hoff⟩ := hc
      subst hoff
      simp only [Option.bind_eq_some_iff] at h
      obtain ⟨k1, hk1, inf, hinf, h⟩ := h
      split at h
      · rename_i hsz
        simp only [Option.map_eq_some_iff] at h
        obtain ⟨k2, hk2, rfl⟩ := h
        obtain ⟨b1, b2, e1, e2, rfl⟩ := eqCells_append k1 k2 _ _ _ he
        rw [List.drop_drop, List.drop_drop] at e2
        have ih := run_eqFs w D sub hsub hkind XS YS fs (f.offset + k1.length) k2 b2 hk2 (by simpa [Nat.add_comm] using e2)
        have hl := eqCells_len _ _ _ _ e1
        have hpart : ∀ ZS : List Value, ((ZS.drop f.offset).take k1.length).length = k1.length → (part f.type ZS.toArray f.offset).run P w = .ok (wrapV P f.type ((ZS.drop f.offset).take k1.length)) w := by
          intro ZS hz
          rcases hkind f.type k1 hk1 with ⟨gs, hgs⟩ | ⟨hone, d, hd, hda⟩
          · have hagg : (isAgg f.type).run P w = .ok true w := by simp [isAgg, run_underlying hgs]
            simp only [part, Sem.run_bind, hagg, Result.andThen_ok, if_true]
            simp only [sizeOf, typeInfo, hinf, Sem.run_bind, run_program, Result.andThen_ok, Sem.run_pure, wrapV, hgs]
            congr 2
            apply Array.ext'
            simp [hsz]
          · have hagg : (isAgg f.type).run P w = .ok false w := by
              simp only [isAgg, Sem.run_bind, run_underlying hd, Result.andThen_ok]
              cases d <;> simp_all [isAggD]
            have hlt : f.offset < ZS.length := by
              simp only [List.length_take, List.length_drop] at hz; omega
            have hwr : wrapV P f.type ((ZS.drop f.offset).take k1.length) = ZS[f.offset] := by
              have hns : ∀ gs, d ≠ .struct gs := by intro gs hg; subst hg; simp [isAggD] at hda
              have : (ZS.drop f.offset).take k1.length = [ZS[f.offset]] := by
                rw [hone, List.drop_eq_getElem_cons hlt]; rfl
              rw [this]
              simp only [wrapV, hd]
              cases d <;> simp_all [isAggD]
            rw [hwr]
            simp [part, hagg, hlt]
        have hX := hpart XS hl.1
        have hY := hpart YS hl.2
        have hE := hsub f.type k1 _ _ b1 hk1 e1
        simp only [Op.eqFields, hname, ne_eq, not_false_eq_true, if_true, Sem.run_bind, hX, hY, hE, Result.andThen_ok]
        cases b1
        · simp
        · simp [ih]
      · cases h

theorem eqKs_kind : ∀ (d : Nat) (t : TypeId) (ks : List EqK), eqKs P d t = some ks → (∃ fs, P.underlying t = some (.struct fs)) ∨ (ks.length = 1 ∧ ∃ d, P.underlying t = some d ∧ isAggD d = false)
  | 0, t, ks, h => by cases h
  | d + 1, t, ks, h => by
    simp only [eqKs] at h
    split at h
    · rename_i k hk; cases h; exact .inr ⟨rfl, _, hk, rfl⟩
    · rename_i hk; cases h; exact .inr ⟨rfl, _, hk, rfl⟩
    · rename_i hk; cases h; exact .inr ⟨rfl, _, hk, rfl⟩
    · rename_i fs hk; exact .inl ⟨fs, hk⟩
    · cases h

theorem run_eqKs (w : World) : ∀ (d : Nat) (D : Nat) (t : TypeId) (ks : List EqK) (xs ys : List Value) (b : Bool), d ≤ D → eqKs P d t = some ks → eqCells ks xs ys = some b → (Op.equalIn D t (wrapV P t xs) (wrapV P t ys)).run P w = .ok b w
  | 0, D, t, ks, xs, ys, b, hD, h, he => by cases h
  | d + 1, D, t, ks, xs, ys, b, hD, h, he => by
    obtain ⟨D, rfl⟩ : ∃ D', D = D' + 1 := ⟨D - 1, by omega⟩
    simp only [eqKs] at h
    have hl := eqCells_len _ _ _ _ he
    split at h
    · rename_i k hk
      cases h
      match xs, ys, hl with
      | [x], [y], _ =>
        cases x <;> cases y <;> simp only [eqCells] at he <;> first | (cases he; done) | skip
        split at he
        · rename_i hc
          obtain ⟨rfl, rfl⟩ := hc
          simp [eqCells] at he
          subst he
          simp [wrapV, hk, run_equalIn_int w D t _ _ _ _ hk]
        · cases he
    · rename_i hk
      cases h
      match xs, ys, hl with
      | [x], [y], _ =>
        cases x <;> cases y <;> simp only [eqCells] at he <;> first | (cases he; done) | skip
        simp [eqCells] at he
        subst he
        simp [wrapV, hk, run_equalIn_string w D t _ _ hk, beq_toListBytes]
    · rename_i hk
      cases h
      match xs, ys, hl with
      | [x], [y], _ =>
        cases x <;> cases y <;> simp only [eqCells] at he <;> first | (cases he; done) | skip
        simp [eqCells] at he
        subst he
        simp [wrapV, hk, run_equalIn_bool' w D t _ _ hk]
    · rename_i fs hk
      split at h
      · cases h
      · rename_i hst
        have hfo : P.fieldsOf t = fs := by simp [Program.fieldsOf, hk]
        have hst' : P.stoodInHeld t = false := by simpa using hst
        have hw1 : ∀ zs : List Value, wrapV P t zs = .agg zs.toArray := fun zs => by simp [wrapV, hk]
        rw [hw1, hw1, run_equalIn_struct w D t _ _ (by rw [hfo]; exact hk) hst', hfo]
        exact run_eqFs w D (eqKs P d) (fun t ks xs ys b h1 h2 => run_eqKs w d D t ks xs ys b (by omega) h1 h2) (eqKs_kind d) xs ys fs.toList 0 ks b h (by simpa using he)
    · cases h

theorem eqCells_rel {ρ : Rho} : ∀ (ks : List EqK) (xs ys xs' ys' : List Value) (b : Bool), VRelL ρ xs xs' → VRelL ρ ys ys' → eqCells ks xs ys = some b → xs' = xs ∧ ys' = ys
  | [], xs, ys, xs', ys', b, h1, h2, h => by
    have := eqCells_len _ _ _ _ h
    have e1 : xs = [] := List.eq_nil_of_length_eq_zero this.1
    have e2 : ys = [] := List.eq_nil_of_length_eq_zero this.2
    subst e1; subst e2
    exact ⟨h1.nil_inv, h2.nil_inv⟩
  | k :: ks, [], ys, xs', ys', b, h1, h2, h => by have := (eqCells_len _ _ _ _ h).1; simp at this
  | k :: ks, x :: xs, [], xs', ys', b, h1, h2, h => by have := (eqCells_len _ _ _ _ h).2; simp at this
  | k :: ks, x :: xs, y :: ys, xs', ys', b, h1, h2, h => by
    obtain ⟨x', zs, rfl, r1, h1'⟩ := h1.cons_inv
    obtain ⟨y', us, rfl, r2, h2'⟩ := h2.cons_inv
    clear h1 h2
    cases k <;> cases x <;> cases y <;> simp only [eqCells] at h <;> first
      | (cases h; done)
      | (split at h
         · simp only [Option.map_eq_some_iff] at h
           obtain ⟨r, hr, _⟩ := h
           obtain ⟨rfl, rfl⟩ := eqCells_rel ks xs ys zs us r h1' h2' hr
           cases r1; cases r2; exact ⟨rfl, rfl⟩
         · cases h)
      | (simp only [Option.map_eq_some_iff] at h
         obtain ⟨r, hr, _⟩ := h
         obtain ⟨rfl, rfl⟩ := eqCells_rel ks xs ys zs us r h1' h2' hr
         cases r1; cases r2; exact ⟨rfl, rfl⟩)

theorem sim_eqs {neg : Bool} {ty ty' : TypeId} {x z : Operand} {y u : Opd} {fs : Array Field} {ks : List EqK} {xs ys : Array Value} {b : Bool} (ho : o.op = .binOp (if neg then .neq else .eql) ty x z ty') (hty : P.underlying ty = some (.struct fs)) (hks : eqKs P 20 ty = some ks)
    (hg : P.eqGuardType P.depth ty = false) (hx : cOpd x = some y) (hz : cOpd z = some u) (hv : ev t y = some (.agg xs)) (hu : ev t u = some (.agg ys)) (hb : eqCells ks xs.toList ys.toList = some b) : OpSim P N o t h (.bool (if neg then !b else b), h, h.length) :=
  .pure fun ρ a w hd hw ht => by
    have r1 := opd_rel ht hx hv
    have r2 := opd_rel ht hz hu
    generalize hq : a.eval x = q at r1
    generalize hp : a.eval z = p at r2
    cases r1 with
    | agg i1 i2 =>
    cases r2 with
    | agg j1 j2 =>
      rename_i xs' ys'
      obtain ⟨e1, e2⟩ := eqCells_rel ks _ _ _ _ b (VRelL.ofArr i1 i2) (VRelL.ofArr j1 j2) hb
      have e1' : xs' = xs := Array.ext' e1
      have e2' : ys' = ys := Array.ext' e2
      subst e1'; subst e2'
      have hrun := run_eqKs w 20 10000 ty ks xs'.toList ys'.toList b (by omega) hks hb
      have hwr : ∀ zs : Array Value, wrapV P ty zs.toList = .agg zs := fun zs => by simp [wrapV, hty]
      rw [hwr, hwr] at hrun
      refine ⟨_, ?_, .bool _⟩
      cases neg <;> simp only [Bool.false_eq_true, if_false, if_true] at ho ⊢
      · simp only [execOp, ho, hq, hp, Sem.run_bind, run_eqGuard_agg w _ ty x z _ _ hg, Result.andThen_ok, run_eql_struct w ty, hrun, Sem.run_pure]
      · simp only [execOp, ho, hq, hp, Sem.run_bind, run_eqGuard_agg w _ ty x z _ _ hg, Result.andThen_ok, run_neq_struct w ty, hrun, Sem.run_pure]

end Go.AM
