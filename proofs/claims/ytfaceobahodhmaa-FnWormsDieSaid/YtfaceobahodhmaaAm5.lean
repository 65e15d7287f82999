/- Simulation of single operations, part two. -/
import Derived.Test.YtfaceobahodhmaaAm4
set_option maxHeartbeats 4000000
set_option maxRecDepth 100000
namespace Go.AM
set_option linter.unusedVariables false
set_option linter.unusedSimpArgs false
variable {P : Program} {N : Nat} {o : Oper} {t : Tm} {h : Heap}

theorem sim_mv {x : Operand} {y : Opd} {v : Value} (ho : o.op = .move x ∨ o.op = .assign x) (hx : cOpd x = some y) (hv : ev t y = some v) : OpSim P N o t h (v, h, h.length) :=
  .pure fun ρ a w hd hw ht => ⟨a.eval x, by rcases ho with ho | ho <;> simp [execOp, ho], opd_rel ht hx hv⟩

theorem sim_pick {c x y : Operand} {c' x' y' : Opd} {b : Bool} {u v : Value} (ho : o.op = .pick c x y) (hc : cOpd c = some c') (hx : cOpd x = some x') (hy : cOpd y = some y')
    (vc : ev t c' = some (.bool b)) (vx : ev t x' = some u) (vy : ev t y' = some v) : OpSim P N o t h (if b then u else v, h, h.length) :=
  .pure fun ρ a w hd hw ht => by
    have h1 := opd_rel ht hc vc
    generalize hq : a.eval c = q at h1
    cases h1
    refine ⟨if b then a.eval x else a.eval y, by simp [execOp, ho, hq, asBool], ?_⟩
    cases b
    · exact opd_rel ht hy vy
    · exact opd_rel ht hx vx

theorem heap_push_post {ρ : Rho} {w : World} (hd : Dom ρ h) (hw : WRel ρ h w) {vs : List Value} {arr : Array Value} {e : TypeId} (hv : VRelL ρ vs arr.toList) (hcs : vs.all isCell = true) :
    ∃ ρ', Post ρ h w ρ' (h ++ [.cells vs none true]) (w.alloc (.cells arr e)) h.length ∧ ρ' h.length none = some (w.heap.size, 0, arr.size) :=
  Post.newCells hd hw (by have := hv.1; simp at this; omega) (fun i v hi => ⟨List.all_eq_true.1 hcs v (List.mem_of_getElem? hi), by simpa using hv.get hi⟩) (fun i _ => by simp) rfl rfl rfl rfl

theorem flat0_isCell {v : Value} (h : flat0 v = true) : isCell v = true := by cases v <;> simp_all [flat0, isCell]
theorem flat0_cells {l : List Value} (h : l.all flat0 = true) : l.all isCell = true := by
  rw [List.all_eq_true] at *; exact fun x hx => flat0_isCell (h x hx)

theorem sim_new {e : TypeId} {i : TypeInfo} {z : Value} (ho : o.op = .alloc e) (hi : P.info? e = some i) (hz : i.zero = some z) (hf : z.cells.toList.all flat0 = true) :
    OpSim P N o t h (.pointer (some ⟨h.length, 0, none⟩), h ++ [.cells z.cells.toList none true], h.length) :=
  .mk fun ρ a w hd hw ht => by
    obtain ⟨ρ', hp, hr⟩ := heap_push_post (e := e) hd hw (VRelL.flat_rfl hf ρ) (flat0_cells hf)
    refine ⟨ρ', .pointer (some ⟨w.heap.size, 0, none⟩), _, by simp [execOp, ho, Instr.alloc, zeroValue, typeInfo, hi, hz, newVar, newRow], hp, ?_⟩
    have := VRel.ptr (ρ := ρ') (o := 0) hr
    simpa using this

theorem sim_box {e : TypeId} {x : Operand} {y : Opd} {v : Value} (ho : o.op = .box e x) (hx : cOpd x = some y) (hv : ev t y = some v) (hcs : (cellsOf v).all isCell = true) :
    OpSim P N o t h (.pointer (some ⟨h.length, 0, none⟩), h ++ [.cells (cellsOf v) none true], h.length) :=
  .mk fun ρ a w hd hw ht => by
    obtain ⟨ρ', hp, hr⟩ := heap_push_post (e := e) hd hw (cellsOf_rel (opd_rel ht hx hv)) hcs
    refine ⟨ρ', .pointer (some ⟨w.heap.size, 0, none⟩), _, by simp [execOp, ho, Instr.box, newVar, newRow], hp, ?_⟩
    have := VRel.ptr (ρ := ρ') (o := 0) hr
    simpa using this

theorem sim_load1 {ty : TypeId} {x : Operand} {y : Opd} {a0 : Addr} {d : TypeDesc} {vs : List Value} {rw : Bool} {v : Value} (ho : o.op = .load ty x) (hu : P.underlying ty = some d)
    (hn : isAggD d = false)
    (hx : cOpd x = some y) (hv : ev t y = some (.pointer (some a0))) (hl : look h a0 = some (vs, rw)) (hg : vs[a0.off]? = some v) : OpSim P N o t h (v, h, h.length) :=
  .pure fun ρ a w hd hw ht => by
    have h1 := opd_rel ht hx hv
    generalize hq : a.eval x = q at h1
    cases h1 with
    | ptr hr =>
      obtain ⟨hb, hc⟩ := look_rel hw hr hl
      obtain ⟨v', k1, k2⟩ := hc.cell hg
      refine ⟨v', ?_, k2⟩
      have hagg : (isAgg ty).run P w = .ok false w := by
        simp only [isAgg, Sem.run_bind, run_underlying hu, Result.andThen_ok]
        cases d <;> simp_all [isAggD]
      simp [execOp, ho, hq, Instr.loadAt, Instr.sureAddr, loadVar, hagg, k1]

theorem sim_loadN {ty : TypeId} {x : Operand} {y : Opd} {a0 : Addr} {d : TypeDesc} {i : TypeInfo} {vs : List Value} {rw : Bool} (ho : o.op = .load ty x) (hu : P.underlying ty = some d) (hi : P.info? ty = some i)
    (hn : isAggD d = true)
    (hx : cOpd x = some y) (hv : ev t y = some (.pointer (some a0))) (hl : look h a0 = some (vs, rw)) (hg : a0.off + i.size ≤ vs.length) : OpSim P N o t h (.agg ((vs.drop a0.off).take i.size).toArray, h, h.length) :=
  .pure fun ρ a w hd hw ht => by
    have h1 := opd_rel ht hx hv
    generalize hq : a.eval x = q at h1
    cases h1 with
    | ptr hr =>
      obtain ⟨hb, hc⟩ := look_rel hw hr hl
      obtain ⟨us, k1, k2, k3, _⟩ := hc.cells _ i.size hg
      refine ⟨.agg us.toArray, ?_, k2.agg⟩
      have hagg : (isAgg ty).run P w = .ok true w := by
        simp only [isAgg, Sem.run_bind, run_underlying hu, Result.andThen_ok]
        cases d <;> simp_all [isAggD]
      have hload := run_loadCells_list (P := P) w ⟨_, _, none⟩ us (fun j u hj => by rw [add_off]; exact k3 j u hj)
      rw [k1] at hload
      simp [execOp, ho, hq, Instr.loadAt, Instr.sureAddr, loadVar, hagg, sizeOf, typeInfo, hi, hload]

theorem all_rel {ρ : Rho} {xs ys : List Value} (h : VRelL ρ xs ys) (hc : xs.all isCell = true) : ∀ v ∈ ys, v.oneCell' = true := by
  intro v hv
  obtain ⟨i, hi⟩ := List.getElem?_of_mem hv
  have hlt : i < xs.length := by rw [h.1]; exact (List.getElem?_eq_some_iff.1 hi).1
  have := h.2 i _ v (List.getElem?_eq_getElem hlt) hi
  exact isCell_oneCell (isCell_rel this (List.all_eq_true.1 hc _ (List.getElem_mem hlt)))

theorem sim_store {ty : TypeId} {x z : Operand} {y u : Opd} {a0 : Addr} {i : TypeInfo} {vs : List Value} {v : Value} (ho : o.op = .store ty x z) (hi : P.info? ty = some i)
    (hx : cOpd x = some y) (hz : cOpd z = some u) (hv : ev t y = some (.pointer (some a0))) (hu : ev t u = some v) (hl : look h a0 = some (vs, true))
    (h1 : (cellsOf v).length = i.size) (h2 : a0.off + i.size ≤ vs.length) (h3 : (cellsOf v).all isCell = true) :
    OpSim P N o t h (undefV, h.set a0.block (.cells (splice vs a0.off (cellsOf v)) a0.spot true), a0.block) :=
  .skip fun ρ a w hd hw ht => by
    have r1 := opd_rel ht hx hv
    have r2 := cellsOf_rel (opd_rel ht hz hu)
    generalize hq : a.eval x = q at r1
    generalize hp : a.eval z = p at r2
    cases r1 with
    | ptr hr =>
      rename_i b off g c d s
      obtain ⟨hb, arr, e, fr, k1, k2, k3, k4, k5⟩ := look_rel hw hr hl
      simp only at h2
      have hlen : p.cells.toList.length = i.size := by rw [← r2.1, h1]
      obtain ⟨w', arr', m1, m2, m3, m4, m5, m6, m7, m8, m9⟩ := run_storeCells_blk P c (d + off) e fr p.cells.toList 0 arr w k1 (by rw [hlen]; omega) (all_rel r2 h3) (fun k hk => k5 rfl k (by omega))
      have hclt : c < w.heap.size := (Array.getElem?_eq_some_iff.1 k1).1
      obtain ⟨ρ', hpost, _⟩ := Post.turn (w' := w') (vs' := splice vs off (cellsOf v)) hd hw hr hb (.inl ⟨rfl, rfl, rfl, rfl⟩) (.inl rfl) (by omega) (by omega) (fun k _ hk => m5 k hk)
        (fun ρ' hs => ⟨arr', e, fr, m2, by omega, by simp [splice]; omega, fun j x hj => by
          rw [m4]
          simp only [splice] at hj
          rw [hlen]
          by_cases c1 : j < off
          · rw [List.append_assoc, List.getElem?_append_left (by simp; omega), List.getElem?_take, if_pos c1] at hj
            rw [if_neg (by omega)]
            obtain ⟨q0, x', n1, n2⟩ := k4 j x hj
            exact ⟨q0, x', n1, n2.mono hs⟩
          · by_cases c2 : j < off + i.size
            · rw [List.append_assoc, List.getElem?_append_right (by simp; omega), List.getElem?_append_left (by simp; omega)] at hj
              rw [if_pos (by omega)]
              have : (List.take off vs).length = off := by simp; omega
              rw [this] at hj
              rw [show d + j - (d + off + 0) = j - off by omega]
              obtain ⟨x', n1, n2⟩ := r2.get hj
              exact ⟨List.all_eq_true.1 h3 x (List.mem_of_getElem? hj), x', n1, n2.mono hs⟩
            · rw [List.append_assoc, List.getElem?_append_right (by simp; omega), List.getElem?_append_right (by simp; omega), List.getElem?_drop] at hj
              rw [if_neg (by omega)]
              have : (List.take off vs).length = off := by simp; omega
              rw [this, h1] at hj
              rw [show off + i.size + (j - off - i.size) = j by omega] at hj
              obtain ⟨q0, x', n1, n2⟩ := k4 j x hj
              exact ⟨q0, x', n1, n2.mono hs⟩, fun _ k hk => k5 rfl k hk⟩) m7 m8 m9
      refine ⟨ρ', w', ?_, hpost⟩
      have hsz : p.cells.size = i.size := by simpa using hlen
      simp [execOp, ho, hq, hp, Instr.storeAt, Instr.sureAddr, storeVar, sizeOf, typeInfo, hi, hsz, m1]

theorem sim_nilck_ptr {x : Operand} {y : Opd} {a0 : Addr} (ho : o.op = .nilCheck x) (hx : cOpd x = some y) (hv : ev t y = some (.pointer (some a0))) : OpSim P N o t h (.pointer (some a0), h, h.length) :=
  .pure fun ρ a w hd hw ht => by
    have h1 := opd_rel ht hx hv
    generalize hq : a.eval x = q at h1
    cases h1 with
    | ptr hr => exact ⟨_, by simp [execOp, ho, hq], .ptr hr⟩

theorem sim_nilck_func {x : Operand} {y : Opd} {f : FuncId} {fs cs : Array Value} (ho : o.op = .nilCheck x) (hx : cOpd x = some y) (hv : ev t y = some (.func (.func f) fs cs)) : OpSim P N o t h (.func (.func f) fs cs, h, h.length) :=
  .pure fun ρ a w hd hw ht => by
    have h1 := opd_rel ht hx hv
    generalize hq : a.eval x = q at h1
    cases h1 with
    | func _ i1 i2 i3 i4 => exact ⟨_, by simp [execOp, ho, hq], .func _ i1 i2 i3 i4⟩

theorem sim_bin {op : BinOp} {ty ty' : TypeId} {x z : Operand} {y u : Opd} {v v1 v2 : Value} (ho : o.op = .binOp op ty x z ty') (hx : cOpd x = some y) (hz : cOpd z = some u)
    (hv : ev t y = some v1) (hu : ev t u = some v2) (hb : abin op v1 v2 = some v) : OpSim P N o t h (v, h, h.length) :=
  .pure fun ρ a w hd hw ht => by
    have r1 := opd_rel ht hx hv
    have r2 := opd_rel ht hz hu
    generalize hq : a.eval x = q at r1
    generalize hp : a.eval z = p at r2
    refine ⟨v, ?_, ?_⟩
    · unfold abin at hb
      cases r1 <;> cases r2 <;> first | (simp at hb; done) | skip
      · rename_i k n k' m
        simp only [execOp, ho, hq, hp, eqGuard_at_int]
        cases op <;> simp only [] at hb <;> (try split at hb) <;> (try (simp at hb; done)) <;> (try split at hb) <;> (try (simp at hb; done)) <;> cases hb <;>
          (try subst_vars) <;> simp_all [binOp, Op.shift, Op.intArith, Op.intDiv, Op.intBits, Op.intCmp] <;> (try (intro hneg; omega))
      · rename_i s s'
        simp only [execOp, ho, hq, hp, eqGuard_at_string]
        cases op <;> simp only [] at hb <;> (try split at hb) <;> (try (simp at hb; done)) <;> cases hb <;> simp [binOp, Op.stringOp]
        rename_i hle
        have : ¬ (9223372036854775807 < ((s.size : Int) + (s'.size : Int))) := by omega
        simp [this]
        omega
    · unfold abin at hb
      cases r1 <;> cases r2 <;> first | (simp at hb; done) | skip
      · cases op <;> simp only [] at hb <;> (try split at hb) <;> (try (simp at hb; done)) <;> (try split at hb) <;> (try (simp at hb; done)) <;> cases hb <;> constructor
      · cases op <;> simp only [] at hb <;> (try split at hb) <;> (try (simp at hb; done)) <;> cases hb <;> constructor

theorem sim_eqb {neg : Bool} {ty ty' : TypeId} {x z : Operand} {y u : Opd} {b1 b2 : Bool} (ho : o.op = .binOp (if neg then .neq else .eql) ty x z ty') (hty : P.underlying ty = some .bool) (hx : cOpd x = some y) (hz : cOpd z = some u)
    (hv : ev t y = some (.bool b1)) (hu : ev t u = some (.bool b2)) : OpSim P N o t h (.bool (if neg then !(b1 == b2) else b1 == b2), h, h.length) :=
  .pure fun ρ a w hd hw ht => by
    have r1 := opd_rel ht hx hv
    have r2 := opd_rel ht hz hu
    generalize hq : a.eval x = q at r1
    generalize hp : a.eval z = p at r2
    cases r1; cases r2
    refine ⟨_, ?_, .bool _⟩
    cases neg <;> simp only [Bool.false_eq_true, if_false, if_true] at ho ⊢
    · simp [execOp, ho, hq, hp, eqGuard_at_bool, run_eql_bool w ty b1 b2 hty]
    · simp [execOp, ho, hq, hp, eqGuard_at_bool, run_neq_bool w ty b1 b2 hty]

theorem sim_un {op : UnOp} {ty : TypeId} {x : Operand} {y : Opd} {v v1 : Value} (ho : o.op = .unOp op ty x) (hx : cOpd x = some y)
    (hv : ev t y = some v1) (hb : aun op v1 = some v) : OpSim P N o t h (v, h, h.length) :=
  .pure fun ρ a w hd hw ht => by
    have r1 := opd_rel ht hx hv
    generalize hq : a.eval x = q at r1
    unfold aun at hb
    cases r1 <;> cases op <;> first | (simp at hb; done) | skip
    · cases hb; exact ⟨_, by simp [execOp, ho, hq, Op.unary], .bool _⟩
    · cases hb; exact ⟨_, by simp [execOp, ho, hq, Op.unary, Op.intArith], .int _ _⟩

theorem sim_conv {src dst : TypeId} {x : Operand} {y : Opd} {k k0 k1 : IntKind} {n : Int} (ho : o.op = .convert src dst x) (hs : P.underlying src = some (.int k0)) (hd : P.underlying dst = some (.int k)) (hx : cOpd x = some y)
    (hv : ev t y = some (.int k1 n)) : OpSim P N o t h (.int k (k.wrap n), h, h.length) :=
  .pure fun ρ a w hdm hw ht => by
    have r1 := opd_rel ht hx hv
    generalize hq : a.eval x = q at r1
    cases r1
    exact ⟨_, by simp [execOp, ho, hq, convert, run_underlying hs, run_underlying hd, Conv.intToInt], .int _ _⟩

theorem sim_convs {src dst : TypeId} {x : Operand} {y : Opd} {s : ByteArray} (ho : o.op = .convert src dst x) (hs : P.underlying src = some .string) (hd : P.underlying dst = some .string) (hx : cOpd x = some y)
    (hv : ev t y = some (.string s)) : OpSim P N o t h (.string s, h, h.length) :=
  .pure fun ρ a w hdm hw ht => by
    have r1 := opd_rel ht hx hv
    generalize hq : a.eval x = q at r1
    cases r1
    exact ⟨_, by simp [execOp, ho, hq, convert, run_underlying hs, run_underlying hd], .str _⟩

theorem isByteT_spec {e : TypeId} (h : isByteT P e = true) : P.underlying e = some (.int .u8) := by
  unfold isByteT at h
  split at h
  · assumption
  · cases h

theorem sim_s2b {src dst e : TypeId} {x : Operand} {y : Opd} {s : ByteArray} (ho : o.op = .convert src dst x) (hs : P.underlying src = some .string) (hd : P.underlying dst = some (.slice e)) (he : P.underlying e = some (.int .u8)) (hx : cOpd x = some y)
    (hv : ev t y = some (.string s)) : OpSim P N o t h (.slice (some ⟨h.length, 0, none⟩) s.size 1, h ++ [.cells (bytesV s) none true], h.length) :=
  .mk fun ρ a w hdm hw ht => by
    have r1 := opd_rel ht hx hv
    generalize hq : a.eval x = q at r1
    cases r1
    have hcap : s.size ≤ grownCap w s.size 0 e := grownCap_ge w s.size 0 e
    have hsz : (Lib.bytesCells w e s).size = grownCap w s.size 0 e := by
      have : s.data.size = s.size := rfl
      simp only [Lib.bytesCells, Array.size_append, Array.size_map, Array.size_replicate]
      omega
    have hheap : (Lib.bytesWorld w e s).heap = w.heap.push (.cells (Lib.bytesCells w e s) e ((Lib.bytesCells w e s).size, (Lib.bytesCells w e s).size + 1)) := by
      apply Array.ext'
      apply List.ext_getElem?
      intro j
      rw [Array.getElem?_toList, Array.getElem?_toList]
      by_cases hj : j < w.heap.size
      · rw [Lib.bytesWorld_at_old w e s j hj, Array.getElem?_push, if_neg (by omega)]
      · by_cases hj2 : j = w.heap.size
        · subst hj2; rw [Lib.bytesWorld_at_new]; simp
        · rw [Array.getElem?_eq_none (by rw [Lib.bytesWorld_size]; omega), Array.getElem?_eq_none (by simp; omega)]
    obtain ⟨ρ', hp, hr⟩ := Post.newCells (w' := Lib.bytesWorld w e s) (vs := bytesV s) hdm hw (by rw [hsz]; simp [bytesV]; exact hcap) (fun i v hi => by
        simp only [bytesV, List.getElem?_map, Option.map_eq_some_iff] at hi
        obtain ⟨b, hb, rfl⟩ := hi
        have hi' : i < s.data.size := by have := (List.getElem?_eq_some_iff.1 hb).1; simpa using this
        refine ⟨rfl, .int .u8 b.toNat, ?_, .int _ _⟩
        simp only [Lib.bytesCells]
        rw [Array.getElem?_append_left (by simpa using hi')]
        simp only [Array.getElem?_map]
        rw [Array.getElem?_toList] at hb
        rw [hb]; rfl) (fun i hi => by simp; omega) hheap rfl rfl rfl
    refine ⟨ρ', .slice (some ⟨w.heap.size, 0, none⟩) s.size (grownCap w s.size 0 e), Lib.bytesWorld w e s, ?_, hp, ?_⟩
    · simp only [execOp, ho, hq]
      rw [Sem.run_bind, Lib.run_convert_string_bytes w src dst e s hs hd he]
      simp
    · have := VRel.sl (ρ := ρ') (o := 0) (n := s.size) (sz := 1) (cap := grownCap w s.size 0 e) hr hcap (by omega)
      simpa using this

end Go.AM
