/- Simulation of single operations, part three. -/
import Derived.Test.YtfaceobahodhmaaAm5
set_option maxHeartbeats 4000000
set_option maxRecDepth 100000
namespace Go.AM
set_option linter.unusedVariables false
set_option linter.unusedSimpArgs false
variable {P : Program} {N : Nat} {o : Oper} {t : Tm} {h : Heap}

theorem sim_faddr {s : TypeId} {x : Operand} {y : Opd} {n : Nat} {fs : Array Field} {f : Field} {i : TypeInfo} {a0 : Addr} (ho : o.op = .fieldAddr s x n) (hs : P.underlying s = some (.struct fs)) (hf : fs[n]? = some f)
    (hi : P.info? f.type = some i) (hz : i.size ≠ 0) (hx : cOpd x = some y) (hv : ev t y = some (.pointer (some a0))) : OpSim P N o t h (.pointer (some ⟨a0.block, a0.off + f.offset, a0.spot⟩), h, h.length) :=
  .pure fun ρ a w hdm hw ht => by
    have r1 := opd_rel ht hx hv
    generalize hq : a.eval x = q at r1
    cases r1 with
    | ptr hr =>
      rename_i b off g c d sz
      refine ⟨.pointer (some ⟨c, d + (off + f.offset), none⟩), ?_, .ptr hr⟩
      simp [execOp, ho, hq, Instr.fieldAt, run_underlying hs, hf, Instr.sureAddr, fieldPlace, sizeOf, typeInfo, hi, hz, add_off, Nat.add_assoc]

theorem sim_part1 {ty : TypeId} {x : Operand} {y : Opd} {n : Nat} {fs : Array Field} {f : Field} {d : TypeDesc} {cs : Array Value} {v : Value} (ho : o.op = .field ty x n) (hs : P.underlying ty = some (.struct fs)) (hf : fs[n]? = some f)
    (hu : P.underlying f.type = some d) (hn : isAggD d = false) (hx : cOpd x = some y) (hv : ev t y = some (.agg cs)) (hg : cs.toList[f.offset]? = some v) : OpSim P N o t h (v, h, h.length) :=
  .pure fun ρ a w hdm hw ht => by
    have r1 := opd_rel ht hx hv
    generalize hq : a.eval x = q at r1
    cases r1 with
    | agg i1 i2 =>
      rename_i ys
      obtain ⟨v', k1, k2⟩ := (VRelL.ofArr i1 i2).get hg
      refine ⟨v', ?_, k2⟩
      have hagg : (isAgg f.type).run P w = .ok false w := by
        simp only [isAgg, Sem.run_bind, run_underlying hu, Result.andThen_ok]
        cases d <;> simp_all [isAggD]
      rw [Array.getElem?_toList] at k1
      simp [execOp, ho, hq, Instr.field, run_underlying hs, hf, asAgg, part, hagg, k1]

theorem sim_partN {ty : TypeId} {x : Operand} {y : Opd} {n : Nat} {fs : Array Field} {f : Field} {d : TypeDesc} {i : TypeInfo} {cs : Array Value} (ho : o.op = .field ty x n) (hs : P.underlying ty = some (.struct fs)) (hf : fs[n]? = some f)
    (hu : P.underlying f.type = some d) (hi : P.info? f.type = some i) (hn : isAggD d = true) (hx : cOpd x = some y) (hv : ev t y = some (.agg cs)) :
    OpSim P N o t h (.agg ((cs.toList.drop f.offset).take i.size).toArray, h, h.length) :=
  .pure fun ρ a w hdm hw ht => by
    have r1 := opd_rel ht hx hv
    generalize hq : a.eval x = q at r1
    cases r1 with
    | agg i1 i2 =>
      rename_i ys
      refine ⟨_, ?_, (((VRelL.ofArr i1 i2).drop f.offset).take i.size).agg⟩
      have hagg : (isAgg f.type).run P w = .ok true w := by
        simp only [isAgg, Sem.run_bind, run_underlying hu, Result.andThen_ok]
        cases d <;> simp_all [isAggD]
      have hex : ys.extract f.offset (f.offset + i.size) = (List.take i.size (List.drop f.offset ys.toList)).toArray := by
        apply Array.ext'
        simp [List.take_drop, Nat.add_comm]
        first | rfl | (rw [← List.drop_take]; congr 1; omega) | skip
      simp [execOp, ho, hq, Instr.field, run_underlying hs, hf, asAgg, part, hagg, sizeOf, typeInfo, hi, hex]

theorem sim_iaddr {ty e : TypeId} {x z : Operand} {y u : Opd} {inf : TypeInfo} {a0 : Addr} {n c : Nat} {k : IntKind} {i : Int} (ho : o.op = .indexAddr ty x z) (hs : P.underlying ty = some (.slice e)) (hi : P.info? e = some inf)
    (hx : cOpd x = some y) (hz : cOpd z = some u) (hv : ev t y = some (.slice (some a0) n c)) (hu : ev t u = some (.int k i)) (h0 : 0 ≤ i ∧ i < n) :
    OpSim P N o t h (.pointer (some ⟨a0.block, a0.off + i.toNat * inf.size, a0.spot⟩), h, h.length) :=
  .pure fun ρ a w hdm hw ht => by
    have r1 := opd_rel ht hx hv
    have r2 := opd_rel ht hz hu
    generalize hq : a.eval x = q at r1
    generalize hp : a.eval z = p at r2
    cases r2
    cases r1 with
    | sl hr hn hc =>
      rename_i b off g cb d s cap
      refine ⟨.pointer (some ⟨cb, d + (off + i.toNat * inf.size), none⟩), ?_, .ptr hr⟩
      simp [execOp, ho, hq, hp, Instr.indexAt, asIntOf, run_underlying hs, h0, sizeOf, typeInfo, hi, add_off, Nat.add_assoc]
    | slE aa hr => omega

theorem sim_istr {ty : TypeId} {x z : Operand} {y u : Opd} {s : ByteArray} {k : IntKind} {i : Int} {b : UInt8} (ho : o.op = .index ty x z) (hs : P.underlying ty = some .string)
    (hx : cOpd x = some y) (hz : cOpd z = some u) (hv : ev t y = some (.string s)) (hu : ev t u = some (.int k i)) (h0 : 0 ≤ i) (hb : s.data.toList[i.toNat]? = some b) :
    OpSim P N o t h (.int .u8 b.toNat, h, h.length) :=
  .pure fun ρ a w hdm hw ht => by
    have r1 := opd_rel ht hx hv
    have r2 := opd_rel ht hz hu
    generalize hq : a.eval x = q at r1
    generalize hp : a.eval z = p at r2
    cases r1; cases r2
    have hb' : s[i.toNat]? = some b := by
      rw [Array.getElem?_toList] at hb
      obtain ⟨h1, h2⟩ := Array.getElem?_eq_some_iff.1 hb
      have h1' : i.toNat < s.size := h1
      rw [getElem?_pos s i.toNat h1']
      exact congrArg some h2
    exact ⟨_, by simp [execOp, ho, hq, hp, Instr.index, asIntOf, run_underlying hs, h0, hb'], .int _ _⟩

theorem bound_run {ρ : Rho} {a : Act} {w : World} {x : Option Operand} {v : Option Value} {d y r : Nat} {code : BoundsCode}
    (hr : (x = none ∧ v = none) ∨ ∃ x' v', x = some x' ∧ v = some v' ∧ VRel ρ v' (a.eval x')) (hb : bound v d y = some r) (Y : Nat) (hY : y ≤ Y) :
    (match x.map a.eval with | some u => Instr.sliceBound u Y code | none => (Pure.pure d : Sem Nat)).run P w = .ok r w ∧ (d ≤ y → r ≤ y) := by
  rcases hr with ⟨rfl, rfl⟩ | ⟨x', v', rfl, rfl, hv⟩
  · cases hb; exact ⟨by simp, fun h => h⟩
  · generalize hq : a.eval x' = q at hv
    cases hv with
    | int k i =>
      simp only [bound] at hb
      split at hb
      · rename_i hi
        cases hb
        refine ⟨?_, fun _ => by omega⟩
        have : 0 ≤ i ∧ i ≤ (Y : Int) := by omega
        simp [hq, Instr.sliceBound, asIntOf, this]
      · cases hb
    | _ => simp [bound] at hb

theorem sliceBounds_run {ρ : Rho} {a : Act} {w : World} {b : Bool} {lo hi : Option Operand} {vl vh : Option Value} {n cap rl rh : Nat}
    (h1 : (lo = none ∧ vl = none) ∨ ∃ x' v', lo = some x' ∧ vl = some v' ∧ VRel ρ v' (a.eval x'))
    (h2 : (hi = none ∧ vh = none) ∨ ∃ x' v', hi = some x' ∧ vh = some v' ∧ VRel ρ v' (a.eval x')) (b2 : bound vh n n = some rh) (b1 : bound vl 0 rh = some rl) (hcap : n ≤ cap) :
    (Instr.sliceBounds b n cap (lo.map a.eval) (hi.map a.eval) none).run P w = .ok (rl, rh, cap) w ∧ rl ≤ rh ∧ rh ≤ n := by
  obtain ⟨r1, k1⟩ := bound_run (P := P) (w := w) (code := if b then .sliceAcap else .sliceAlen) h2 b2 cap hcap
  obtain ⟨r2, k2⟩ := bound_run (P := P) (w := w) (code := .sliceB) h1 b1 rh (Nat.le_refl _)
  refine ⟨?_, k2 (Nat.zero_le _), k1 (Nat.le_refl _)⟩
  unfold Instr.sliceBounds
  cases hi <;> cases lo <;> (try simp only [Option.map_none, Option.map_some, Sem.run_pure, Result.ok.injEq, and_true] at r1) <;> (try simp only [Option.map_none, Option.map_some, Sem.run_pure, Result.ok.injEq, and_true] at r2) <;>
    simp [r1, r2]

theorem sim_slstr {ty : TypeId} {x : Operand} {y : Opd} {lo hi : Option Operand} {lo' hi' : Option Opd} {vl vh : Option Value} {s : ByteArray} {rl rh : Nat} (ho : o.op = .slice ty x lo hi none) (hs : P.underlying ty = some .string)
    (hx : cOpd x = some y) (hlo : cOpo lo = some lo') (hhi : cOpo hi = some hi') (hv : ev t y = some (.string s)) (hvl : evo t lo' = some vl) (hvh : evo t hi' = some vh)
    (b2 : bound vh s.size s.size = some rh) (b1 : bound vl 0 rh = some rl) : OpSim P N o t h (.string (s.extract rl rh), h, h.length) :=
  .pure fun ρ a w hdm hw ht => by
    have r1 := opd_rel ht hx hv
    generalize hq : a.eval x = q at r1
    cases r1
    obtain ⟨hb, _, _⟩ := sliceBounds_run (P := P) (w := w) (b := false) (opo_rel ht hlo hvl) (opo_rel ht hhi hvh) b2 b1 (Nat.le_refl _)
    exact ⟨_, by simp [execOp, ho, hq, Instr.sliceAt, run_underlying hs, Instr.slice, hb], .str _⟩

theorem sim_slsl {ty e : TypeId} {x : Operand} {y : Opd} {lo hi : Option Operand} {lo' hi'' : Option Opd} {vl vh : Option Value} {a0 : Addr} {inf : TypeInfo} {n rl rh : Nat} (ho : o.op = .slice ty x lo hi none) (hs : P.underlying ty = some (.slice e))
    (hi' : P.info? e = some inf) (hx : cOpd x = some y) (hlo : cOpo lo = some lo') (hhi : cOpo hi = some hi'') (hv : ev t y = some (.slice (some a0) n inf.size)) (hvl : evo t lo' = some vl) (hvh : evo t hi'' = some vh)
    (b2 : bound vh n n = some rh) (b1 : bound vl 0 rh = some rl) : OpSim P N o t h (.slice (some ⟨a0.block, a0.off + rl * inf.size, a0.spot⟩) (rh - rl) inf.size, h, h.length) :=
  .pure fun ρ a w hdm hw ht => by
    have r1 := opd_rel ht hx hv
    generalize hq : a.eval x = q at r1
    generalize hsz : inf.size = sz at *
    cases r1 with
    | sl hr hn hc =>
      rename_i b off g cb d s cap
      obtain ⟨hb, h1, h2⟩ := sliceBounds_run (P := P) (w := w) (b := true) (opo_rel ht hlo hvl) (opo_rel ht hhi hvh) b2 b1 hn
      refine ⟨.slice (if cap = rl then some ⟨cb, d + off, none⟩ else some ⟨cb, d + off + rl * sz, none⟩) (rh - rl) (cap - rl), ?_, ?_⟩
      · simp [execOp, ho, hq, Instr.sliceAt, run_underlying hs, Instr.slice, hb, sizeOf, typeInfo, hi', hsz, add_off]
      · by_cases e1 : cap = rl
        · rw [if_pos e1, show rh - rl = 0 by omega, show cap - rl = 0 by omega]
          exact .slE _ hr
        · rw [if_neg e1]
          have := VRel.sl (o := off + rl * sz) (n := rh - rl) (sz := sz) (cap := cap - rl) hr (by omega) (by
            have : rl * sz + (cap - rl) * sz = cap * sz := by rw [← Nat.add_mul]; congr 1; omega
            omega)
          rw [show d + (off + rl * sz) = d + off + rl * sz by omega] at this
          exact this
    | slE aa hr =>
      rename_i b off g xx
      obtain ⟨hb, h1, h2⟩ := sliceBounds_run (P := P) (w := w) (b := true) (opo_rel ht hlo hvl) (opo_rel ht hhi hvh) b2 b1 (Nat.le_refl _)
      have e2 : rl = 0 := by omega
      subst e2
      have e3 : rh = 0 := by omega
      subst e3
      exact ⟨.slice aa 0 0, by simp [execOp, ho, hq, Instr.sliceAt, run_underlying hs, Instr.slice, hb, sizeOf, typeInfo, hi', hsz], .slE _ hr⟩

theorem sim_slnil {ty e : TypeId} {x : Operand} {y : Opd} {lo hi : Option Operand} {lo' hi'' : Option Opd} {vl vh : Option Value} {inf : TypeInfo} {rl rh : Nat} (ho : o.op = .slice ty x lo hi none) (hs : P.underlying ty = some (.slice e))
    (hi' : P.info? e = some inf) (hx : cOpd x = some y) (hlo : cOpo lo = some lo') (hhi : cOpo hi = some hi'') (hv : ev t y = some (.slice none 0 0)) (hvl : evo t lo' = some vl) (hvh : evo t hi'' = some vh)
    (b2 : bound vh 0 0 = some rh) (b1 : bound vl 0 rh = some rl) : OpSim P N o t h (.slice none 0 0, h, h.length) :=
  .pure fun ρ a w hdm hw ht => by
    have r1 := opd_rel ht hx hv
    generalize hq : a.eval x = q at r1
    cases r1 with
    | sl0 aa =>
      obtain ⟨hb, h1, h2⟩ := sliceBounds_run (P := P) (w := w) (b := true) (opo_rel ht hlo hvl) (opo_rel ht hhi hvh) b2 b1 (Nat.le_refl _)
      have e2 : rl = 0 := by omega
      subst e2
      have e3 : rh = 0 := by omega
      subst e3
      exact ⟨.slice aa 0 0, by simp [execOp, ho, hq, Instr.sliceAt, run_underlying hs, Instr.slice, hb, sizeOf, typeInfo, hi'], .sl0 _⟩

theorem flat_rep (zs : List Value) : ∀ (n i : Nat), (List.replicate n zs).flatten[i]? = if i < n * zs.length then zs[i % zs.length]? else none
  | 0, i => by simp
  | n + 1, i => by
    rw [List.replicate_succ, List.flatten_cons]
    by_cases hi : i < zs.length
    · rw [List.getElem?_append_left hi, if_pos (by rw [Nat.add_mul]; omega), Nat.mod_eq_of_lt hi]
    · rw [List.getElem?_append_right (by omega), flat_rep zs n]
      have e : (i - zs.length) % zs.length = i % zs.length := by
        conv => rhs; rw [show i = (i - zs.length) + zs.length by omega]
        simp
      rw [e, Nat.add_mul]
      by_cases h1 : i - zs.length < n * zs.length
      · rw [if_pos h1, if_pos (by omega)]
      · rw [if_neg h1, if_neg (by omega)]

theorem zeros_rel (ρ : Rho) (zs : Array Value) (hf : zs.toList.all flat0 = true) (hz : zs.size ≠ 0) (n : Nat) :
    VRelL ρ (List.replicate n zs.toList).flatten ((Array.range (n * zs.size)).map (fun i => zs[i % zs.size]!)).toList := by
  have hl : ((List.replicate n zs.toList).flatten).length = n * zs.size := by simp
  refine ⟨by simp, fun i x y hx hy => ?_⟩
  rw [flat_rep] at hx
  split at hx
  · rename_i hi
    simp only [Array.length_toList] at hx hi
    rw [Array.getElem?_toList] at hx
    simp only [Array.toList_map, List.getElem?_map, Array.getElem?_toList, Option.map_eq_some_iff] at hy
    obtain ⟨j, hj, rfl⟩ := hy
    have hj' : j = i := by
      rw [Array.getElem?_range] at hj
      split at hj <;> simp_all
    subst hj'
    have hm : j % zs.size < zs.size := Nat.mod_lt _ (by omega)
    rw [getElem!_pos zs _ hm]
    rw [Array.getElem?_eq_getElem hm] at hx
    cases hx
    exact VRel.flat0_rfl (List.all_eq_true.1 hf _ (by simp)) ρ
  · cases hx

theorem sim_mkslice {ty e : TypeId} {x z : Operand} {y u : Opd} {inf : TypeInfo} {zv : Value} {n : Int} (ho : o.op = .makeSlice ty x z) (hs : P.underlying ty = some (.slice e)) (hi : P.info? e = some inf) (hzv : inf.zero = some zv)
    (hsz : inf.size ≠ 0) (hzs : zv.cells.size = inf.size) (hf : zv.cells.toList.all flat0 = true) (hx : cOpd x = some y) (hz : cOpd z = some u) (hv : ev t y = some (.int .i64 n)) (hu : ev t u = some (.int .i64 n))
    (h0 : 0 ≤ n) (h1 : n < 140737488355328) (h2 : inf.bytes * n ≤ 140737488355328) :
    OpSim P N o t h (.slice (some ⟨h.length, 0, none⟩) n.toNat inf.size, h ++ [.cells (List.replicate n.toNat zv.cells.toList).flatten none true], h.length) :=
  .mk fun ρ a w hdm hw ht => by
    have r1 := opd_rel ht hx hv
    have r2 := opd_rel ht hz hu
    generalize hq : a.eval x = q at r1
    generalize hp : a.eval z = p at r2
    cases r1; cases r2
    have hrel := zeros_rel ρ zv.cells hf (by omega) n.toNat
    obtain ⟨ρ', hpost, hr⟩ := heap_push_post (e := e) hdm hw hrel (by
      rw [List.all_eq_true]
      intro x hx
      simp only [List.mem_flatten, List.mem_replicate] at hx
      obtain ⟨l, ⟨_, rfl⟩, hx⟩ := hx
      exact flat0_isCell (List.all_eq_true.1 hf x hx))
    have hwr : IntKind.i64.wrap n = n := by
      simp only [IntKind.wrap, IntKind.bits, IntKind.signed]
      have : n % 2 ^ 64 = n := Int.emod_eq_of_lt h0 (by omega)
      simp [this]
      omega
    have c1 : ¬ n < 0 := by omega
    have c2 : ¬ (281474976710656 < (inf.bytes : Int) * n) := by omega
    refine ⟨ρ', .slice (some ⟨w.heap.size, 0, none⟩) n.toNat n.toNat, _, ?_, hpost, ?_⟩
    · by_cases hn0 : n = 0
      · subst hn0
        simp [execOp, ho, hq, hp, Instr.makeSlice, run_underlying hs, asInt, asIntOf, typeInfo, hi, hwr, sizeOf, newRow, c2, hzs, show Array.range 0 = #[] from rfl]
      · have hnz : ¬ (n.toNat * inf.size = 0) := by
          intro hh
          rcases Nat.mul_eq_zero.1 hh with h3 | h3 <;> omega
        have hnz' : ¬ (n.toNat = 0 ∨ inf.size = 0) := by omega
        simp [execOp, ho, hq, hp, Instr.makeSlice, run_underlying hs, asInt, asIntOf, typeInfo, hi, hwr, sizeOf, newRow, c1, c2, zeroValue, hzv, hzs, hnz']
        exact fun hh => absurd hh hnz
    · have hsize : ((Array.range (n.toNat * zv.cells.size)).map (fun i => zv.cells[i % zv.cells.size]!)).size = n.toNat * inf.size := by simp [hzs]
      rw [hsize] at hr
      have := VRel.sl (ρ := ρ') (o := 0) (n := n.toNat) (sz := inf.size) (cap := n.toNat) hr (Nat.le_refl _) (by omega)
      simpa using this

theorem sim_ext {x : Operand} {y : Opd} {vs : Array Value} {i : Nat} {v : Value} (ho : o.op = .extract x i) (hx : cOpd x = some y) (hv : ev t y = some (.tuple vs)) (hg : vs.toList[i]? = some v) : OpSim P N o t h (v, h, h.length) :=
  .pure fun ρ a w hdm hw ht => by
    have r1 := opd_rel ht hx hv
    generalize hq : a.eval x = q at r1
    cases r1 with
    | tuple i1 i2 =>
      obtain ⟨v', k1, k2⟩ := (VRelL.ofArr i1 i2).get hg
      rw [Array.getElem?_toList] at k1
      exact ⟨v', by simp [execOp, ho, hq, Instr.extract, k1], k2⟩

theorem sim_len_str {args : Array Operand} {ts : Array TypeId} {x : Operand} {ty : TypeId} {y : Opd} {s : ByteArray} (ho : o.op = .call { callee := .builtin .len, args, argTypes := ts }) (ha : args.toList = [x]) (hts : ts.toList = [ty])
    (hs : P.underlying ty = some .string) (hx : cOpd x = some y) (hv : ev t y = some (.string s)) : OpSim P N o t h (.int .i64 s.size, h, h.length) :=
  .pure fun ρ a w hdm hw ht => by
    have r1 := opd_rel ht hx hv
    generalize hq : a.eval x = q at r1
    cases r1
    have e1 : args = #[x] := by apply Array.ext'; simpa using ha
    have e2 : ts = #[ty] := by apply Array.ext'; simpa using hts
    subst e1; subst e2
    exact ⟨_, by simp [execOp, ho, hq, resolve, invoke, builtin, Builtin.len_, run_underlying hs, goInt], .int _ _⟩

theorem sim_len_sl {args : Array Operand} {ts : Array TypeId} {x : Operand} {ty e : TypeId} {y : Opd} {a0 : Option Addr} {n c : Nat} (ho : o.op = .call { callee := .builtin .len, args, argTypes := ts }) (ha : args.toList = [x]) (hts : ts.toList = [ty])
    (hs : P.underlying ty = some (.slice e)) (hx : cOpd x = some y) (hv : ev t y = some (.slice a0 n c)) : OpSim P N o t h (.int .i64 n, h, h.length) :=
  .pure fun ρ a w hdm hw ht => by
    have r1 := opd_rel ht hx hv
    generalize hq : a.eval x = q at r1
    have e1 : args = #[x] := by apply Array.ext'; simpa using ha
    have e2 : ts = #[ty] := by apply Array.ext'; simpa using hts
    subst e1; subst e2
    cases r1 <;> exact ⟨_, by simp [execOp, ho, hq, resolve, invoke, builtin, Builtin.len_, run_underlying hs, goInt], .int _ _⟩

theorem sim_fn {f : FuncId} {first captured : Array Operand} {fs cs : List Opd} {vfs vcs : List Value} (ho : o.op = .makeFunc (.func f) first captured) (h1 : cOpds first.toList = some fs) (h2 : cOpds captured.toList = some cs)
    (e1 : evs t fs = some vfs) (e2 : evs t cs = some vcs) : OpSim P N o t h (.func (.func f) vfs.toArray vcs.toArray, h, h.length) :=
  .pure fun ρ a w hdm hw ht => by
    have r1 := opds_rel ht h1 e1
    have r2 := opds_rel ht h2 e2
    refine ⟨.func (.func f) (first.map a.eval) (captured.map a.eval), by simp [execOp, ho, Instr.makeFunc], .func _ (by simpa using r1.1) (fun i x y hx hy => r1.2 i x y (by simpa using hx) (by simpa using hy)) (by simpa using r2.1) (fun i x y hx hy => r2.2 i x y (by simpa using hx) (by simpa using hy))⟩

theorem sim_rng {ty : TypeId} {x : Operand} {y : Opd} {s : ByteArray} (ho : o.op = .range ty x) (hs : P.underlying ty = some .string) (hx : cOpd x = some y) (hv : ev t y = some (.string s)) :
    OpSim P N o t h (.pointer (some ⟨h.length, 0, none⟩), h ++ [.iter s 0], h.length) :=
  .mk fun ρ a w hdm hw ht => by
    have r1 := opd_rel ht hx hv
    generalize hq : a.eval x = q at r1
    cases r1
    obtain ⟨ρ', hp, hr⟩ := Post.newIter (w' := w.iter s 0) (str := s) (pos := 0) hdm hw rfl rfl rfl rfl
    refine ⟨ρ', .pointer (some ⟨w.heap.size, 0, none⟩), w.iter s 0, by simp [execOp, ho, hq, run_range_string w ty s hs], hp, ?_⟩
    have := VRel.ptr (ρ := ρ') (o := 0) hr
    simpa using this

end Go.AM
