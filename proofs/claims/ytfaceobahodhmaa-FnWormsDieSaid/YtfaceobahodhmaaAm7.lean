/- Simulation of single operations, part four: append, literals, equality of structs, iterators. -/
import Derived.Test.YtfaceobahodhmaaAm6
set_option maxHeartbeats 4000000
set_option maxRecDepth 100000
namespace Go.AM
set_option linter.unusedVariables false
set_option linter.unusedSimpArgs false
variable {P : Program} {N : Nat} {o : Oper} {t : Tm} {h : Heap}

def notInt (d : TypeDesc) : Bool := match d with | .int _ => false | _ => true

theorem run_app_room {w w' : World} {t u ty e : TypeId} {d : TypeDesc} {inf : TypeInfo} {base : Option Addr} {sLen sCap m : Nat} {x : Value} {news : List Value}
    (ht : P.underlying t = some (.slice e)) (hu : P.underlying u = some d) (hd : notInt d = true) (hi : P.info? e = some inf)
    (hn : ∀ w, (Builtin.lenOf x).run P w = .ok m w) (hf : (Builtin.firstCells inf.size m x).run P w = .ok news.toArray w) (hroom : sLen + m ≤ sCap)
    (hst : match base with | some a => (storeCells (a.add (sLen * inf.size)) news).run P w = .ok () w' | none => w' = w) :
    (Builtin.append_ #[t, u] ty #[.slice base sLen sCap, x]).run P w = .ok (.slice base (sLen + m) sCap) w' := by
  have hd' : ∀ k, d = TypeDesc.int k → False := by intro k hk; subst hk; simp [notInt] at hd
  clear hd
  cases base with
  | none =>
    simp only at hst; subst hst
    simp [Builtin.append_, run_underlying ht, run_underlying hu, sizeOf, typeInfo, hi, hn, hroom, hf, hd']
  | some a =>
    simp only at hst
    simp [Builtin.append_, run_underlying ht, run_underlying hu, sizeOf, typeInfo, hi, hn, hroom, hf, hd', hst]

theorem run_app_grow {w : World} {t u ty e : TypeId} {d : TypeDesc} {inf : TypeInfo} {z : Value} {base : Option Addr} {sLen sCap m : Nat} {x : Value} {olds news : List Value}
    (ht : P.underlying t = some (.slice e)) (hu : P.underlying u = some d) (hd : notInt d = true) (hi : P.info? e = some inf) (hz : inf.zero = some z) (hbytes : inf.bytes ≠ 0)
    (hn : ∀ w, (Builtin.lenOf x).run P w = .ok m w) (hf : (Builtin.firstCells inf.size m x).run P w.drew = .ok news.toArray w.drew)
    (hfo : (Builtin.firstCells inf.size sLen (.slice base sLen sCap)).run P w.drew = .ok olds.toArray w.drew) (hroom : sCap < sLen + m) (hfit : (sLen + m) * inf.bytes ≤ 140737488355328) :
    (Builtin.append_ #[t, u] ty #[.slice base sLen sCap, x]).run P w = .ok (.slice (some ⟨w.heap.size, 0, none⟩) (sLen + m) (grownCap w (sLen + m) sCap e))
      (w.drew.alloc (.cells ((olds ++ news).toArray ++ Builtin.zeroCells z.cells (grownCap w (sLen + m) sCap e - (sLen + m))) e)) := by
  have h48 := growslice_fits (bytes := inf.bytes) hroom hfit
  have h48' : ¬ (281474976710656 < Builtin.nextslicecap (sLen + m) sCap * inf.bytes) := by omega
  have hroom' : ¬ (sLen + m ≤ sCap) := by omega
  have hd' : ∀ k, d = TypeDesc.int k → False := by intro k hk; subst hk; simp [notInt] at hd
  clear hd
  simp [Builtin.append_, run_underlying ht, run_underlying hu, sizeOf, typeInfo, zeroValue, hi, hz, hn, hroom', hbytes, h48', Question.forced, hf, hfo, newRow, grownCap, hd']
  congr 2
  apply Array.ext'
  simp

theorem arg_cells {ρ : Rho} {w : World} (hw : WRel ρ h w) {inf : TypeInfo} {y y' : Value} {m : Nat} {new : List Value} (hy : VRel ρ y y')
    (hm : appArg h inf.size y = some (m, new)) :
    ∃ news : List Value, news.length = m * inf.size ∧ VRelL ρ new news ∧ new.all isCell = true ∧ (∀ w, (Builtin.lenOf y').run P w = .ok m w) ∧
      (Builtin.firstCells inf.size m y').run P w = .ok news.toArray w ∧ (Builtin.firstCells inf.size m y').run P w.drew = .ok news.toArray w.drew := by
  unfold appArg at hm
  cases hy with
  | str s =>
    simp only at hm
    split at hm
    · rename_i h1
      cases hm
      have hsz : s.data.toList.length = s.size := by rw [Array.length_toList]; rfl
      have hex : s.extract 0 s.size = s := by simp
      have hall : ∀ p : Value → Bool, (∀ n : Int, p (.int .u8 n) = true) → (bytesV s).all p = true := by
        intro p hp
        rw [List.all_eq_true]
        intro x hx
        simp only [bytesV, List.mem_map] at hx
        obtain ⟨b, _, rfl⟩ := hx
        exact hp _
      refine ⟨bytesV s, by simp [bytesV, hsz, h1], VRelL.flat_rfl (hall _ fun _ => rfl) ρ, hall _ fun _ => rfl, fun w => by simp [Builtin.lenOf], ?_, ?_⟩ <;>
      · simp only [Builtin.firstCells, hex, Sem.run_pure]
        congr 1
        apply Array.ext'
        simp [bytesV]
    · cases hm
  | sl0 a =>
    cases hm
    refine ⟨[], by simp, .nil, rfl, fun w => by simp [Builtin.lenOf], ?_, ?_⟩ <;> cases a <;> simp [Builtin.firstCells, loadCells, loadCellsFrom]
  | sl hr hn hc =>
    simp only [Option.bind_eq_some_iff] at hm
    obtain ⟨⟨vs, rw⟩, hl, hm⟩ := hm
    simp only at hm
    split at hm
    · rename_i hle
      cases hm
      obtain ⟨hb, hok⟩ := look_rel hw hr hl
      obtain ⟨us, k1, k2, k3, k4⟩ := hok.cells _ _ hle
      refine ⟨us, k1, k2, k4, fun w => by simp [Builtin.lenOf], run_firstCells_some (P := P) w inf.size _ _ _ _ us k1 (fun j v hj => by rw [add_off]; exact k3 j v hj),
        run_firstCells_some (P := P) w.drew inf.size _ _ _ _ us k1 (fun j v hj => by rw [add_off]; exact k3 j v hj)⟩
    · cases hm
  | slE a hr =>
    simp only [Option.bind_eq_some_iff] at hm
    obtain ⟨⟨vs, rw⟩, hl, hm⟩ := hm
    simp only at hm
    split at hm
    · cases hm
      refine ⟨[], by simp, by simpa using .nil, by simp, fun w => by simp [Builtin.lenOf], ?_, ?_⟩ <;> cases a <;> simp [Builtin.firstCells, loadCells, loadCellsFrom]
    · cases hm
  | _ => cases hm

theorem zeroCells_size (z : Array Value) (n : Nat) : (Builtin.zeroCells z n).size = n * z.size := size_zeroCells z n

theorem sim_app {args : Array Operand} {ts : Array TypeId} {x z : Operand} {ty u e : TypeId} {x' z' : Opd} {d : TypeDesc} {inf : TypeInfo} {zv : Value} {r : Res}
    (ho : o.op = .call { callee := .builtin .append, args, argTypes := ts }) (ha : args.toList = [x, z]) (hts : ts.toList = [ty, u])
    (hs : P.underlying ty = some (.slice e)) (hi : P.info? e = some inf) (hu : P.underlying u = some d) (hd : notInt d = true) (hz : inf.zero = some zv) (hzs : zv.cells.size = inf.size) (hsize : inf.size ≠ 0) (hbytes : inf.bytes ≠ 0)
    (hx : cOpd x = some x') (hy : cOpd z = some z') (hr : aop t h (.app inf.size inf.bytes x' z') = some r) : OpSim P N o t h r := by
  have e1 : args = #[x, z] := by apply Array.ext'; simpa using ha
  have e2 : ts = #[ty, u] := by apply Array.ext'; simpa using hts
  subst e1; subst e2
  simp only [aop, Option.bind_eq_some_iff] at hr
  obtain ⟨xv, hxv, yv, hyv, ⟨m, new⟩, hm, hr⟩ := hr
  refine .mk fun ρ a w hdm hw ht => ?_
  have rx := opd_rel ht hx hxv
  have ry := opd_rel ht hy hyv
  obtain ⟨news, hnl, hnr, hnc, hlen, hf1, hf2⟩ := arg_cells (P := P) (inf := inf) hw ry hm
  have hexec : ∀ (v : Value) (w' : World), (Builtin.append_ #[ty, u] o.type #[a.eval x, a.eval z]).run P w = .ok v w' → (execOp a.eval o).run P w = .ok (.value v) w' := by
    intro v w' hv
    simp [execOp, ho, resolve, invoke, builtin, hv]
  generalize hq : a.eval x = q at rx hexec
  have hnone : ∀ u' ∈ news, u'.oneCell' = true := all_rel hnr hnc
  split at hr
  · 
    cases rx with
    | sl0 aa =>
    split at hr
    · 
      rename_i hm0
      cases hr
      subst hm0
      have hnews : news = [] := List.eq_nil_of_length_eq_zero (by rw [hnl]; simp)
      subst hnews
      refine ⟨ρ, _, w, hexec _ _ (run_app_room (w' := w) hs hu hd hi hlen hf1 (Nat.le_refl _) (by cases aa <;> simp [storeCells])), Post.refl hdm hw _, .sl0 _⟩
    · split at hr
      · rename_i hm0 hfit
        cases hr
        have hrun := run_app_grow (ty := o.type) (base := aa) (sLen := 0) (sCap := 0) (olds := []) hs hu hd hi hz hbytes hlen hf2 (by cases aa <;> simp [Builtin.firstCells, loadCells, loadCellsFrom]) (by omega) (by simpa [room] using hfit)
        simp only [Nat.zero_add, List.nil_append] at hrun
        have hg := grownCap_ge w m 0 e
        have hsz2 : (news.toArray ++ Builtin.zeroCells zv.cells (grownCap w m 0 e - m)).size = grownCap w m 0 e * inf.size := by
          simp only [Array.size_append, List.size_toArray, size_zeroCells, hnl, hzs]
          rw [← Nat.add_mul]; congr 1; omega
        obtain ⟨ρ', hp, hr'⟩ := Post.newCells (w := w.drew) (h := h) (vs := new) (arr := news.toArray ++ Builtin.zeroCells zv.cells (grownCap w m 0 e - m)) (e := e) (fr := (0, 0)) hdm (hw.same (Nat.le_refl _) (fun _ _ => rfl))
          (by rw [hnr.1]; simp) (fun i v hi => ⟨List.all_eq_true.1 hnc v (List.mem_of_getElem? hi), by
            obtain ⟨v', k1, k2⟩ := hnr.get hi
            refine ⟨v', ?_, k2⟩
            rw [Array.getElem?_append_left (by simpa using (List.getElem?_eq_some_iff.1 k1).1)]
            simpa using k1⟩) (fun i _ => by simp) (w' := w.drew.alloc (.cells (news.toArray ++ Builtin.zeroCells zv.cells (grownCap w m 0 e - m)) e)) rfl rfl rfl rfl
        refine ⟨ρ', _, _, hexec _ _ hrun, hp.drewL, ?_⟩
        have := VRel.sl (ρ := ρ') (o := 0) (n := m) (sz := inf.size) (cap := grownCap w m 0 e) hr' hg (by rw [hsz2]; omega)
        simpa using this
      · cases hr
  · 
    rename_i a0 n c
    simp only [Option.bind_eq_some_iff] at hr
    obtain ⟨⟨vs, rw⟩, hl, hr⟩ := hr
    simp only at hr
    split at hr
    · rename_i hcond
      obtain ⟨hrw, hc, hfits, hfit⟩ := hcond
      subst hrw; subst hc
      simp only [room] at hfit
      have key : ∀ (q : Value), VRel ρ (.slice (some a0) n inf.size) q → ∃ b off g, a0 = ⟨b, off, g⟩ ∧
          ∃ cb dd s, ρ b g = some (cb, dd, s) ∧ ∃ base cap, q = .slice base n cap ∧ n ≤ cap ∧ ((base = some ⟨cb, dd + off, none⟩ ∧ dd + off + cap * inf.size ≤ s) ∨ (n = 0 ∧ cap = 0)) := by
        intro q hq'
        cases hq' with
        | sl hr1 hn1 hc1 => exact ⟨_, _, _, rfl, _, _, _, hr1, _, _, rfl, hn1, .inl ⟨rfl, hc1⟩⟩
        | slE aa hr1 =>
          rename_i xx
          obtain ⟨x1, x2, x3⟩ := xx
          exact ⟨_, _, _, rfl, _, _, _, hr1, _, _, rfl, Nat.le_refl _, .inr ⟨rfl, rfl⟩⟩
      obtain ⟨b, off, g, rfl, cb, dd, s, hρ, base, cap, hqe, hncap, hbase⟩ := key q rx
      subst hqe
      obtain ⟨hb, hok⟩ := look_rel hw hρ hl
      simp only at hfits
      obtain ⟨us, k1, k2, k3, k4⟩ := hok.cells off (n * inf.size) hfits
      split at hr
      · 
        rename_i hm0
        cases hr
        subst hm0
        have hnews : news = [] := List.eq_nil_of_length_eq_zero (by rw [hnl]; simp)
        subst hnews
        refine ⟨ρ, _, w, hexec _ _ (run_app_room (w' := w) hs hu hd hi hlen hf1 (by omega) (by cases base <;> simp [storeCells])), Post.refl hdm hw _, rx⟩
      · rename_i hm0
        cases hr
        have hvs : VRelL ρ ((vs.drop off).take (n * inf.size) ++ new) (us ++ news) := k2.append hnr
        have hvl : ((vs.drop off).take (n * inf.size) ++ new).length = (n + m) * inf.size := by
          rw [hvs.1, List.length_append, k1, hnl, Nat.add_mul]
        have hcells : ((vs.drop off).take (n * inf.size) ++ new).all isCell = true := by
          rw [List.all_append, k4, hnc]; rfl
        by_cases hroom : n + m ≤ cap
        · 
          rcases hbase with ⟨rfl, hcap⟩ | ⟨h1, h2⟩
          · obtain ⟨arr, et, fr, q1, q2, q3, q4, q5⟩ := hok
            have hcap' : (n + m) * inf.size ≤ cap * inf.size := Nat.mul_le_mul_right _ hroom
            rw [Nat.add_mul] at hcap'
            obtain ⟨w', arr', m1, m2, m3, m4, m5, m6, m7, m8, m9⟩ := run_storeCells_blk P cb (dd + off + n * inf.size) et fr news 0 arr w q1 (by rw [hnl]; omega) hnone (fun k hk => q5 rfl k (by omega))
            have hclt : cb < w.heap.size := (Array.getElem?_eq_some_iff.1 q1).1
            have hrun := run_app_room (ty := o.type) (w' := w') hs hu hd hi hlen hf1 hroom (base := some ⟨cb, dd + off, none⟩) (sLen := n) (by simp only [add_off]; exact m1)
            obtain ⟨ρ', hpost, hr'⟩ := Post.turn (w' := w') (g' := nextg g) (c' := cb) (d' := dd + off) (s' := s) (vs' := (vs.drop off).take (n * inf.size) ++ new) hdm hw hρ hb (.inr rfl) (.inl rfl) (by omega) (by omega) (fun k _ hk => m5 k hk)
              (fun ρ' hsub => ⟨arr', et, fr, m2, by omega, by rw [hvl, Nat.add_mul]; omega, fun j v hj => ⟨List.all_eq_true.1 hcells v (List.mem_of_getElem? hj), by
                rw [m4, hnl]
                by_cases c1 : j < n * inf.size
                · rw [if_neg (by omega)]
                  rw [List.getElem?_append_left (by simp; omega), List.getElem?_take, if_pos c1, List.getElem?_drop] at hj
                  obtain ⟨_, v', n1, n2⟩ := q4 _ _ hj
                  exact ⟨v', by rw [show dd + off + j = dd + (off + j) by omega]; exact n1, n2.mono hsub⟩
                · have hjl : j < n * inf.size + m * inf.size := by
                    have := (List.getElem?_eq_some_iff.1 hj).1
                    rw [hvl, Nat.add_mul] at this; exact this
                  rw [if_pos (by omega)]
                  have hl1 : ((vs.drop off).take (n * inf.size)).length = n * inf.size := by simp; omega
                  rw [List.getElem?_append_right (by omega), hl1] at hj
                  obtain ⟨v', n1, n2⟩ := hnr.get hj
                  exact ⟨v', by rw [show dd + off + j - (dd + off + n * inf.size + 0) = j - n * inf.size by omega]; exact n1, n2.mono hsub⟩⟩, fun _ k hk => q5 rfl k hk⟩) m7 m8 m9
            refine ⟨ρ', _, w', hexec _ _ hrun, hpost, ?_⟩
            have := VRel.sl (ρ := ρ') (o := 0) (n := n + m) (sz := inf.size) (cap := cap) hr' hroom (by omega)
            simpa using this
          · omega
        · 
          have hfo : (Builtin.firstCells inf.size n (.slice base n cap)).run P w.drew = .ok us.toArray w.drew := by
            rcases hbase with ⟨rfl, hcap⟩ | ⟨h1, h2⟩
            · exact run_firstCells_some (P := P) w.drew inf.size n _ n cap us k1 (fun j v hj => by rw [add_off]; exact k3 j v hj)
            · subst h1
              have : us = [] := List.eq_nil_of_length_eq_zero (by rw [k1]; simp)
              subst this
              cases base <;> simp [Builtin.firstCells, loadCells, loadCellsFrom]
          have hrun := run_app_grow (ty := o.type) hs hu hd hi hz hbytes hlen hf2 hfo (by omega) hfit
          have hg := grownCap_ge w (n + m) cap e
          have hsz2 : ((us ++ news).toArray ++ Builtin.zeroCells zv.cells (grownCap w (n + m) cap e - (n + m))).size = grownCap w (n + m) cap e * inf.size := by
            simp only [Array.size_append, List.size_toArray, List.length_append, size_zeroCells, hnl, hzs, k1]
            rw [← Nat.add_mul, ← Nat.add_mul]; congr 1; omega
          have hheap : ∀ k, k < w.heap.size → (w.drew.alloc (.cells ((us ++ news).toArray ++ Builtin.zeroCells zv.cells (grownCap w (n + m) cap e - (n + m))) e)).heap[k]? = w.heap[k]? :=
            fun k hk => heap_alloc_old w.drew _ k hk
          obtain ⟨ρ', hpost, hr'⟩ := Post.turn (w' := w.drew.alloc (.cells ((us ++ news).toArray ++ Builtin.zeroCells zv.cells (grownCap w (n + m) cap e - (n + m))) e)) (g' := nextg g) (c' := w.heap.size) (d' := 0)
            (s' := grownCap w (n + m) cap e * inf.size) (vs' := (vs.drop off).take (n * inf.size) ++ new) hdm hw hρ hb (.inr rfl) (.inr rfl) (by simp) (by simp) (fun k hk _ => hheap k hk)
            (fun ρ' hsub => ⟨_, e, (0, 0), heap_alloc_new w.drew _, hsz2, by rw [hvl, Nat.zero_add]; exact Nat.mul_le_mul_right _ hg, fun j v hj => ⟨List.all_eq_true.1 hcells v (List.mem_of_getElem? hj), by
              obtain ⟨v', n1, n2⟩ := hvs.get hj
              refine ⟨v', ?_, n2.mono hsub⟩
              rw [Nat.zero_add, Array.getElem?_append_left (by simpa using (List.getElem?_eq_some_iff.1 n1).1)]
              simpa using n1⟩, fun _ i _ => by simp⟩) rfl rfl rfl
          refine ⟨ρ', _, _, hexec _ _ hrun, hpost, ?_⟩
          have := VRel.sl (ρ := ρ') (o := 0) (n := n + m) (sz := inf.size) (cap := grownCap w (n + m) cap e) hr' hg (by omega)
          simpa using this
    · cases hr
  · cases hr

end Go.AM
