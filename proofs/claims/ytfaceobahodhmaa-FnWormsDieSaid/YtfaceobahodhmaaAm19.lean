/- Lemmas by which simp evaluates the abstract machine. -/
import Derived.Test.YtfaceobahodhmaaAm18
set_option maxHeartbeats 4000000
set_option maxRecDepth 100000
namespace Go.AM
set_option linter.unusedVariables false
set_option linter.unusedSimpArgs false
variable {M : Prog} {t : Tm} {h : Heap} {l : Nat}

def str (l : List UInt8) : ByteArray := ⟨⟨l⟩⟩

def apb : Option Nat → Option Nat → Bool
  | some a, some b => a != b
  | _, _ => true

def iterO : Option AObj → Option (ByteArray × Nat)
  | some (.iter s pos) => some (s, pos)
  | _ => none

theorem Zh3 {x : Opd} : aop t h (.next x) = (ev t x).bind fun x =>
    match x with
    | .pointer (some ⟨b, 0, none⟩) => (iterO h[b]?).bind fun sp =>
        if sp.2 < sp.1.size then some (.tuple #[.bool true, .int .i64 sp.2, .int .i32 (Utf8.decode sp.1 sp.2).1], h.set b (.iter sp.1 (sp.2 + (Utf8.decode sp.1 sp.2).2)), b) else some (.tuple #[.bool false], h, h.length)
    | _ => none := by
  simp only [aop]
  congr 1
  funext x
  split
  · rename_i b
    show _ = (iterO h[b]?).bind _
    cases hx : h[b]? with
    | none => rfl
    | some o => cases o <;> rfl
  · rename_i hn
    split
    · rename_i b; exact absurd rfl (hn b)
    · rfl

def lookO (g : Option Nat) : Option AObj → Option (List Value × Bool)
  | some (.cells vs g' rw) => if g' = g then some (vs, rw) else none
  | _ => none

theorem u8_lit {x y : UInt8} {n : Int} (h : n = (y.toNat : Int)) (h2 : y = y) : (((x.toNat : Nat) : Int) = n) = (x = y) := by
  apply propext
  subst h
  exact ⟨fun h => UInt8.toNat_inj.1 (by omega), fun h => by rw [h]⟩

theorem ba_eq {a b : ByteArray} : (a.toList == b.toList) = decide (a = b) := by
  by_cases e : a = b
  · subst e; simp
  · have : a.toList ≠ b.toList := fun h => e (ByteArray.ext (Array.ext' (by simpa [ByteArray.toList_eq] using h)))
    simp [e, this]

theorem Zb1 {i : Nat} : ev t (.tmp i) = gt t i := congrArg (fun x => x) rfl
theorem Zb2 {v : Value} : ev t (.val v) = some v := congrArg (fun x => x) rfl
theorem Zb3  : evs t [] = some [] := congrArg (fun x => x) rfl
theorem Zb4 {x : Opd} {r : List Opd} : evs t (x :: r) = (ev t x).bind fun v => (evs t r).bind fun vs => some (v :: vs) := congrArg (fun x => x) rfl
theorem Zb5  : evo t none = some none := congrArg (fun x => x) rfl
theorem Zb6 {x : Opd} : evo t (some x) = (ev t x).map some := congrArg (fun x => x) rfl
theorem Zb7  : evp t [] = some [] := congrArg (fun x => x) rfl
theorem Zb8 {o s : Nat} {x : Opd} {r : List (Nat × Nat × Opd)} : evp t ((o, s, x) :: r) = (ev t x).bind fun v => (evp t r).bind fun vs => some ((o, s, v) :: vs) := congrArg (fun x => x) rfl
theorem Zbx {d i : Nat} {v : Value} : gt (put t (some d) v) i = bsel (d == i) (some v) (gt t i) := by rw [bsel_eq]; rfl
theorem Zb9 {i : Nat} {v : Value} : gt (put t none v) i = gt t i := congrArg (fun x => x) rfl
theorem Zby {d i : Nat} {v : Value} : gt ((d, v) :: t) i = bsel (d == i) (some v) (gt t i) := by rw [bsel_eq]; rfl
theorem Zca {i : Nat} : gt [] i = none := congrArg (fun x => x) rfl
theorem Zcb {v : Value} {i : Nat} {r : Tm} : kc (some v) i r = (i, v) :: r := congrArg (fun x => x) rfl
theorem Zcc {i : Nat} {r : Tm} : kc none i r = r := congrArg (fun x => x) rfl
theorem Zcd  : keepT t [] = [] := congrArg (fun x => x) rfl
theorem Zcg {i : Nat} : argT i [] = [] := congrArg (fun x => x) rfl
theorem Zch {i : Nat} {v : Value} {r : List Value} : argT i (v :: r) = (i, v) :: argT (i + 1) r := congrArg (fun x => x) rfl
theorem Zci {α β : Type} {a : α} {f : α → Option β} : (some a).bind f = f a := congrArg (fun x => x) rfl
theorem Zcj {α β : Type} {f : α → Option β} : Option.bind none f = none := congrArg (fun x => x) rfl
theorem Zck {α β : Type} {a : α} {f : α → β} : (some a).map f = some (f a) := congrArg (fun x => x) rfl
theorem Zcl {α : Type} {a : α} {o : Option α} : (some a).or o = some a := congrArg (fun x => x) rfl
theorem Zcm {α : Type} {o : Option α} : Option.or none o = o := by cases o <;> rfl
theorem Zcn  : ares t h [] = some [] := congrArg (fun x => x) rfl
theorem Zco {i : Nat} {r : List MRes} : ares t h (.tmp i :: r) = (gt t i).bind fun v => (ares t h r).bind fun vs => some (v :: vs) := congrArg (fun x => x) rfl
theorem Zcp {n : Option Nat} {i : Nat} {r : List MRes} : ares t h (.cell n i :: r) = (gt t i).bind fun a => (loadA h n a).bind fun v => (ares t h r).bind fun vs => some (v :: vs) := congrArg (fun x => x) rfl
theorem Zcq {b o : Nat} {g : Option Nat} : loadA h none (.pointer (some ⟨b, o, g⟩)) = (look h ⟨b, o, g⟩).bind fun x => x.1[o]? := congrArg (fun x => x) rfl
theorem Zcr {n b o : Nat} {g : Option Nat} : loadA h (some n) (.pointer (some ⟨b, o, g⟩)) = (look h ⟨b, o, g⟩).bind fun x => if o + n ≤ x.1.length then some (.agg ((x.1.drop o).take n).toArray) else none := congrArg (fun x => x) rfl
theorem Zcs  : oneOr [] = .tuple #[] := congrArg (fun x => x) rfl
theorem Zct {v : Value} : oneOr [v] = v := congrArg (fun x => x) rfl
theorem Zcu {v w : Value} {r : List Value} : oneOr (v :: w :: r) = .tuple (v :: w :: r).toArray := congrArg (fun x => x) rfl
theorem Zcv {b : Bool} : flat (.bool b) = true := congrArg (fun x => x) rfl
theorem Zcw {b : Bool} : flat1 (.bool b) = true := congrArg (fun x => x) rfl
theorem Zcx {b : Bool} : flat0 (.bool b) = true := congrArg (fun x => x) rfl
theorem Zcy {k : IntKind} {n : Int} : flat (.int k n) = true := congrArg (fun x => x) rfl
theorem Zcz {k : IntKind} {n : Int} : flat1 (.int k n) = true := congrArg (fun x => x) rfl
theorem Zc0 {k : IntKind} {n : Int} : flat0 (.int k n) = true := congrArg (fun x => x) rfl
theorem Zc1 {s : ByteArray} : flat (.string s) = true := congrArg (fun x => x) rfl
theorem Zc2 {s : ByteArray} : flat1 (.string s) = true := congrArg (fun x => x) rfl
theorem Zc3 {s : ByteArray} : flat0 (.string s) = true := congrArg (fun x => x) rfl
theorem Zc4  : flat .nilFunc = true := congrArg (fun x => x) rfl
theorem Zc5  : flat1 .nilFunc = true := congrArg (fun x => x) rfl
theorem Zc6  : flat0 .nilFunc = true := congrArg (fun x => x) rfl
theorem Zc7  : flat .nilIface = true := congrArg (fun x => x) rfl
theorem Zc8  : flat1 .nilIface = true := congrArg (fun x => x) rfl
theorem Zc9  : flat0 .nilIface = true := congrArg (fun x => x) rfl
theorem Zda {a : Addr} {n c : Nat} : flat (.slice (some a) n c) = false := congrArg (fun x => x) rfl
theorem Zdb  : flat (.slice none 0 0) = true := congrArg (fun x => x) rfl
theorem Zdc {a : Addr} : flat (.pointer (some a)) = false := congrArg (fun x => x) rfl
theorem Zdd  : flat (.pointer none) = true := congrArg (fun x => x) rfl
theorem Zde {a : Addr} {n c : Nat} : flat1 (.slice (some a) n c) = false := congrArg (fun x => x) rfl
theorem Zdf  : flat1 (.slice none 0 0) = true := congrArg (fun x => x) rfl
theorem Zdg {a : Addr} : flat1 (.pointer (some a)) = false := congrArg (fun x => x) rfl
theorem Zdh  : flat1 (.pointer none) = true := congrArg (fun x => x) rfl
theorem Zdi {a : Addr} {n c : Nat} : flat0 (.slice (some a) n c) = false := congrArg (fun x => x) rfl
theorem Zdj  : flat0 (.slice none 0 0) = true := congrArg (fun x => x) rfl
theorem Zdk {a : Addr} : flat0 (.pointer (some a)) = false := congrArg (fun x => x) rfl
theorem Zdl  : flat0 (.pointer none) = true := congrArg (fun x => x) rfl
theorem Zdm {cs : List Value} : flat (.agg ⟨cs⟩) = cs.all flat0 := congrArg (fun x => x) rfl
theorem Zdn {cs : List Value} : flat1 (.agg ⟨cs⟩) = cs.all flat0 := congrArg (fun x => x) rfl
theorem Zdo {cs : List Value} : flat (.tuple ⟨cs⟩) = cs.all flat1 := congrArg (fun x => x) rfl
theorem Zdp {f : Fn} {xs cs : Array Value} : flat (.func f xs cs) = (xs.toList.all flat0 && cs.toList.all flat0) := congrArg (fun x => x) rfl
theorem Zdq {f : Fn} {xs cs : Array Value} : flat1 (.func f xs cs) = (xs.toList.all flat0 && cs.toList.all flat0) := congrArg (fun x => x) rfl
theorem Zdr {p : Value → Bool} : ([] : List Value).all p = true := congrArg (fun x => x) rfl
theorem Zds {p : Value → Bool} {v : Value} {r : List Value} : (v :: r).all p = (p v && r.all p) := congrArg (fun x => x) rfl
theorem Zdt {b : Bool} : cellsOf (.bool b) = [(.bool b)] := congrArg (fun x => x) rfl
theorem Zdu {b : Bool} : isCell (.bool b) = true := congrArg (fun x => x) rfl
theorem Zdv {k : IntKind} {n : Int} : cellsOf (.int k n) = [(.int k n)] := congrArg (fun x => x) rfl
theorem Zdw {k : IntKind} {n : Int} : isCell (.int k n) = true := congrArg (fun x => x) rfl
theorem Zdx {s : ByteArray} : cellsOf (.string s) = [(.string s)] := congrArg (fun x => x) rfl
theorem Zdy {s : ByteArray} : isCell (.string s) = true := congrArg (fun x => x) rfl
theorem Zdz  : cellsOf .nilFunc = [.nilFunc] := congrArg (fun x => x) rfl
theorem Zd0  : isCell .nilFunc = true := congrArg (fun x => x) rfl
theorem Zd1  : cellsOf .nilIface = [.nilIface] := congrArg (fun x => x) rfl
theorem Zd2  : isCell .nilIface = true := congrArg (fun x => x) rfl
theorem Zd3 {a : Option Addr} {n c : Nat} : cellsOf (.slice a n c) = [(.slice a n c)] := congrArg (fun x => x) rfl
theorem Zd4 {a : Option Addr} {n c : Nat} : isCell (.slice a n c) = true := congrArg (fun x => x) rfl
theorem Zd5 {a : Option Addr} : cellsOf (.pointer a) = [(.pointer a)] := congrArg (fun x => x) rfl
theorem Zd6 {a : Option Addr} : isCell (.pointer a) = true := congrArg (fun x => x) rfl
theorem Zd7 {a : Option Nat} : cellsOf (.map a) = [(.map a)] := congrArg (fun x => x) rfl
theorem Zd8 {a : Option Nat} : isCell (.map a) = true := congrArg (fun x => x) rfl
theorem Zd9 {f : Fn} {xs cs : Array Value} : cellsOf (.func f xs cs) = [(.func f xs cs)] := congrArg (fun x => x) rfl
theorem Zea {f : Fn} {xs cs : Array Value} : isCell (.func f xs cs) = true := congrArg (fun x => x) rfl
theorem Zeb {cs : List Value} : cellsOf (.agg ⟨cs⟩) = cs := congrArg (fun x => x) rfl
theorem Zec {cs : Array Value} : cellsOf (.agg cs) = cs.toList := congrArg (fun x => x) rfl
theorem Zbu {h0 : Heap} {v : Value} {K : Value → Heap → Nat → Prop} : @fin h0 v h l ⟨K⟩ = if h0.length ≤ l ∧ flat v = true then K v h0 h0.length else K v h l := congrArg (fun x => x) rfl
theorem Zed {α : Type} {v : α} {r : List α} {n : Nat} : (v :: r)[n]? = bsel (n == 0) (some v) (r[n - 1]?) := by rw [bsel_eq]; cases n <;> simp
theorem Zee {α : Type} {n : Nat} : ([] : List α)[n]? = none := by simp
theorem Zef {α : Type} {v : α} {r : List α} {n : Nat} : (v :: r).take n = bsel (n == 0) [] (v :: r.take (n - 1)) := by rw [bsel_eq]; cases n <;> simp
theorem Zeg {α : Type} {n : Nat} : ([] : List α).take n = [] := by simp
theorem Zeh {α : Type} {v : α} {r : List α} {n : Nat} : (v :: r).drop n = bsel (n == 0) (v :: r) (r.drop (n - 1)) := by rw [bsel_eq]; cases n <;> simp
theorem Zei {α : Type} {n : Nat} : ([] : List α).drop n = [] := by simp
theorem Zej {α : Type} {v : α} {r : List α} : (v :: r).length = r.length + 1 := congrArg (fun x => x) rfl
theorem Zek {α : Type} : ([] : List α).length = 0 := congrArg (fun x => x) rfl
theorem Zel {α : Type} {v : α} {r s : List α} : (v :: r) ++ s = v :: (r ++ s) := congrArg (fun x => x) rfl
theorem Zem {α : Type} {s : List α} : [] ++ s = s := congrArg (fun x => x) rfl
theorem Zen {α : Type} {s : List α} : (⟨s⟩ : Array α).toList = s := congrArg (fun x => x) rfl
theorem Zeo {α : Type} {s : List α} : s.toArray = ⟨s⟩ := congrArg (fun x => x) rfl
theorem Zep {cs l : List Value} {off : Nat} : splice cs off l = cs.take off ++ l ++ cs.drop (off + l.length) := congrArg (fun x => x) rfl
theorem Zeq {cs : List Value} : fillL cs [] = some cs := congrArg (fun x => x) rfl
theorem Zer {cs : List Value} {off size : Nat} {v : Value} {r : List (Nat × Nat × Value)} : fillL cs ((off, size, v) :: r) = if (cellsOf v).length = size ∧ off + size ≤ cs.length then fillL (splice cs off (cellsOf v)) r else none := congrArg (fun x => x) rfl
theorem Zes {b o : Nat} {g : Option Nat} : look h ⟨b, o, g⟩ = lookO g h[b]? := by unfold look lookO; rfl
theorem Zet {g g' : Option Nat} {vs : List Value} {rw : Bool} : lookO g (some (.cells vs g' rw)) = if g' = g then some (vs, rw) else none := congrArg (fun x => x) rfl
theorem Zeu {o : AObj} {n : Nat} (hn : n = h.length) : (h ++ [o])[n]? = some o := by subst hn; simp
theorem Zev {o : AObj} {n : Nat} (hn : n < h.length) : (h ++ [o])[n]? = h[n]? := List.getElem?_append_left hn
theorem Zew {o : AObj} {i j : Nat} (hi : i = j) (hj : j < h.length) : (h.set i o)[j]? = some o := by subst hi; simp [hj]
theorem Zex {o : AObj} {i j : Nat} (hi : i ≠ j) : (h.set i o)[j]? = h[j]? := by simp [hi]
theorem Zey {α : Type} {s : List α} : s.drop 0 = s := congrArg (fun x => x) rfl
theorem Zez {α : Type} {s : List α} {n : Nat} : (s.take n).length = min n s.length := List.length_take
theorem Ze0 {α : Type} {s : List α} {n : Nat} : (s.drop n).length = s.length - n := List.length_drop
theorem Ze1 {α : Type} {s r : List α} : (s ++ r).length = s.length + r.length := List.length_append
theorem Ze2 {α : Type} {s : List α} {n : Nat} (h : s.length ≤ n) : s.take n = s := List.take_of_length_le h
theorem Ze3 {α : Type} {s : List α} {i : Nat} {a b : α} : (s.set i a).set i b = s.set i b := List.set_set .. 
theorem Ze4 {s : ByteArray} {pos : Nat} : iterO (some (.iter s pos)) = some (s, pos) := congrArg (fun x => x) rfl
theorem Ze5 {o o' : AObj} {n : Nat} (hn : n = h.length) : (h ++ [o]).set n o' = h ++ [o'] := by subst hn; simp
theorem Ze6 {o o' : AObj} {n : Nat} (hn : n < h.length) : (h ++ [o]).set n o' = h.set n o' ++ [o] := by rw [List.set_append_left _ _ hn]
theorem Ze7 {o : AObj} : (h ++ [o]).length = h.length + 1 := by simp
theorem Ze8 {o : AObj} {i : Nat} : (h.set i o).length = h.length := by simp
theorem Ze9 {k : IntKind} {a b : Int} : abin .add (.int k a) (.int k b) = some (.int k (k.wrap (a + b))) := by simp [abin]
theorem Zfa {k : IntKind} {a b : Int} : abin .sub (.int k a) (.int k b) = some (.int k (k.wrap (a - b))) := by simp [abin]
theorem Zfb {k : IntKind} {a b : Int} : abin .mul (.int k a) (.int k b) = some (.int k (k.wrap (a * b))) := by simp [abin]
theorem Zfc {k : IntKind} {a b : Int} (hb : b ≠ 0) : abin .quo (.int k a) (.int k b) = some (.int k (k.wrap (a.tdiv b))) := by simp [abin, hb]
theorem Zfd {k : IntKind} {a b : Int} (hb : b ≠ 0) : abin .rem (.int k a) (.int k b) = some (.int k (a.tmod b)) := by simp [abin, hb]
theorem Zfe {k : IntKind} {a b : Int} : abin .and (.int k a) (.int k b) = some (.int k (k.wrap (BitVec.ofInt k.bits a &&& BitVec.ofInt k.bits b).toNat)) := by simp [abin]
theorem Zff {k k' : IntKind} {a b : Int} : abin .shl (.int k a) (.int k' b) = if b < 0 then none else some (.int k (k.wrap (a * 2 ^ min b.toNat k.bits))) := congrArg (fun x => x) rfl
theorem Zfg {k k' : IntKind} {a b : Int} : abin .shr (.int k a) (.int k' b) = if b < 0 then none else some (.int k (a.fdiv (2 ^ min b.toNat k.bits))) := congrArg (fun x => x) rfl
theorem Zfh {k : IntKind} {a b : Int} : abin .eql (.int k a) (.int k b) = some (.bool (decide (a = b))) := by simp [abin]; try (by_cases hab : a = b <;> simp [hab])
theorem Zfi {k : IntKind} {a b : Int} : abin .neq (.int k a) (.int k b) = some (.bool (decide (¬ a = b))) := by simp [abin]; try (by_cases hab : a = b <;> simp [hab])
theorem Zfj {k : IntKind} {a b : Int} : abin .lss (.int k a) (.int k b) = some (.bool (decide (a < b))) := by simp [abin]; try (by_cases hab : a = b <;> simp [hab])
theorem Zfk {k : IntKind} {a b : Int} : abin .leq (.int k a) (.int k b) = some (.bool (decide (a ≤ b))) := by simp [abin]; try (by_cases hab : a = b <;> simp [hab])
theorem Zfl {k : IntKind} {a b : Int} : abin .gtr (.int k a) (.int k b) = some (.bool (decide (b < a))) := by simp [abin]; try (by_cases hab : a = b <;> simp [hab])
theorem Zfm {k : IntKind} {a b : Int} : abin .geq (.int k a) (.int k b) = some (.bool (decide (b ≤ a))) := by simp [abin]; try (by_cases hab : a = b <;> simp [hab])
theorem Zfn {a b : ByteArray} : abin .add (.string a) (.string b) = if a.size + b.size ≤ 9223372036854775807 then some (.string (a ++ b)) else none := congrArg (fun x => x) rfl
theorem Zfo {a b : ByteArray} : abin .eql (.string a) (.string b) = some (.bool (decide (a = b))) := by simp [abin, ba_eq]
theorem Zfp {a b : ByteArray} : abin .neq (.string a) (.string b) = some (.bool (decide (¬ a = b))) := by simp [abin, ba_eq]
theorem Zfq {k : IntKind} {a : Int} : aun .neg (.int k a) = some (.int k (k.wrap (0 - a))) := congrArg (fun x => x) rfl
theorem Zfr {b : Bool} : aun .not (.bool b) = some (.bool !b) := congrArg (fun x => x) rfl
theorem Zfs {d y : Nat} : bound none d y = some d := congrArg (fun x => x) rfl
theorem Zft {k : IntKind} {i : Int} {d y : Nat} : bound (some (.int k i)) d y = if 0 ≤ i ∧ i ≤ y then some i.toNat else none := congrArg (fun x => x) rfl
theorem Zfu  : nextg none = some 0 := congrArg (fun x => x) rfl
theorem Zfv {k : Nat} : nextg (some k) = some (k + 1) := congrArg (fun x => x) rfl
theorem Zfw {l : List UInt8} : (str l).size = l.length := by simp [str, ByteArray.size]
theorem Zfx {l : List UInt8} : (str l).data.toList = l := by simp [str]
theorem Zfy {l : List UInt8} : (⟨⟨l⟩⟩ : ByteArray) = str l := congrArg (fun x => x) rfl
theorem Zfz {l m : List UInt8} : str l ++ str m = str (l ++ m) := by apply ByteArray.ext; simp [str, ByteArray.data_append]
theorem Zf0 {l : List UInt8} {a b : Nat} : (str l).extract a b = str ((l.take b).drop a) := by apply ByteArray.ext; simp [str, ByteArray.data_extract, List.extract_eq_take_drop, List.drop_take]
theorem Zf1 {l m : List UInt8} : (str l = str m) = (l = m) := by apply propext; exact ⟨fun h => by have := congrArg (fun s : ByteArray => s.data.toList) h; simpa [str] using this, fun h => by rw [h]⟩
theorem Zf2 {l : List UInt8} {n : Nat} (hn : n < l.length) : l[n]? = some (l.getD n 0) := by simp [hn]
theorem Zf3 {a : Int} (h1 : -9223372036854775808 ≤ a) (h2 : a < 9223372036854775808) : IntKind.i64.wrap a = a := by unfold IntKind.wrap; simp [IntKind.bits, IntKind.signed]; omega
theorem Zf4 {a : Int} (h1 : 0 ≤ a) (h2 : a < 256) : IntKind.u8.wrap a = a := by unfold IntKind.wrap; simp [IntKind.bits, IntKind.signed]; omega
theorem Zf5 {a : Int} (h1 : 0 ≤ a) (h2 : a < 18446744073709551616) : IntKind.u64.wrap a = a := by unfold IntKind.wrap; simp [IntKind.bits, IntKind.signed]; omega
theorem Zf6 {a : Int} (h1 : -2147483648 ≤ a) (h2 : a < 2147483648) : IntKind.i32.wrap a = a := by unfold IntKind.wrap; simp [IntKind.bits, IntKind.signed]; omega
theorem Zf7 {a b : Int} (h : 0 ≤ a) : a.tmod b = a % b := Int.tmod_eq_emod_of_nonneg h
theorem Zf8 {a b : Int} (h : 0 ≤ a) : a.tdiv b = a / b := Int.tdiv_eq_ediv_of_nonneg h
theorem Zf9 {x : UInt8} : (((x.toNat : Nat) : Int) = 48) = (x = 48) := u8_lit (by decide) rfl
theorem Zga {x : UInt8} : (((x.toNat : Nat) : Int) = 49) = (x = 49) := u8_lit (by decide) rfl
theorem Zgb {x : UInt8} : (((x.toNat : Nat) : Int) = 76) = (x = 76) := u8_lit (by decide) rfl
theorem Zgc {x : UInt8} : (((x.toNat : Nat) : Int) = 78) = (x = 78) := u8_lit (by decide) rfl
theorem Zgd {x : UInt8} : (((x.toNat : Nat) : Int) = 82) = (x = 82) := u8_lit (by decide) rfl
theorem Zge {x : UInt8} : (((x.toNat : Nat) : Int) = 85) = (x = 85) := u8_lit (by decide) rfl
theorem Zgf {a b : Int} (h : a ≤ b) : (a ≤ b) = True := eq_true h
theorem Zgg {a b : Int} (h : ¬ a ≤ b) : (a ≤ b) = False := eq_false h
theorem Zgh {a b : Int} (h : a < b) : (a < b) = True := eq_true h
theorem Zgi {a b : Int} (h : ¬ a < b) : (a < b) = False := eq_false h
theorem Zgj {a b : Int} (h : a = b) : (a = b) = True := eq_true h
theorem Zgk {a b : Int} (h : ¬ a = b) : (a = b) = False := eq_false h
theorem Zgl {a b : Nat} (h : a ≤ b) : (a ≤ b) = True := eq_true h
theorem Zgm {a b : Nat} (h : ¬ a ≤ b) : (a ≤ b) = False := eq_false h
theorem Zgn {a b : Nat} (h : a < b) : (a < b) = True := eq_true h
theorem Zgo {a b : Nat} (h : ¬ a < b) : (a < b) = False := eq_false h
theorem Zgp {a b : Nat} (h : a = b) : (a = b) = True := eq_true h
theorem Zgq {a b : Nat} (h : ¬ a = b) : (a = b) = False := eq_false h
theorem Zgr {n : Option Nat} {a : Opd} : (MOp.load n a).addrs = [a] := congrArg (fun x => x) rfl
theorem Zgs {a : Opd} : (MOp.b2s a).addrs = [a] := congrArg (fun x => x) rfl
theorem Zgt {a : Opd} : (MOp.next a).addrs = [a] := congrArg (fun x => x) rfl
theorem Zgu {n : Nat} {a x : Opd} : (MOp.store n a x).addrs = [a] := congrArg (fun x => x) rfl
theorem Zgv {n m : Nat} {a x : Opd} : (MOp.app n m a x).addrs = [a, x] := congrArg (fun x => x) rfl
theorem Zgw {zs : List Value} : (MOp.new zs).addrs = [] := congrArg (fun x => x) rfl
theorem Zgx {x : Opd} : (MOp.box x).addrs = [] := congrArg (fun x => x) rfl
theorem Zgy {a b : Nat} {zs : List Value} {ps : List (Nat × Nat × Opd)} : (MOp.bslice a b zs ps).addrs = [] := congrArg (fun x => x) rfl
theorem Zgz {x : Opd} : (MOp.s2b x).addrs = [] := congrArg (fun x => x) rfl
theorem Zg0 {a b : Nat} {zs : List Value} {n c : Opd} : (MOp.mkslice a b zs n c).addrs = [] := congrArg (fun x => x) rfl
theorem Zg1 {x : Opd} : (MOp.rng x).addrs = [] := congrArg (fun x => x) rfl
theorem Zg2 {f : FuncId} {a : List Opd} {h' : Heap} {c : List Opd} : tell (.call f a) t h h' c = sameAll t h h' c := by simp [tell, MOp.isCall]
theorem Zg3 {n : Option Nat} {a : Opd} {h' : Heap} {cc : List Opd} : tell (.load n a) t h h' cc = (apartAll t (MOp.load n a).addrs cc = true) := by simp [tell, MOp.isCall]
theorem Zg4 {a : Opd} {h' : Heap} {cc : List Opd} : tell (.b2s a) t h h' cc = (apartAll t (MOp.b2s a).addrs cc = true) := by simp [tell, MOp.isCall]
theorem Zg5 {a : Opd} {h' : Heap} {cc : List Opd} : tell (.next a) t h h' cc = (apartAll t (MOp.next a).addrs cc = true) := by simp [tell, MOp.isCall]
theorem Zg6 {n : Nat} {a x : Opd} {h' : Heap} {cc : List Opd} : tell (.store n a x) t h h' cc = (apartAll t (MOp.store n a x).addrs cc = true) := by simp [tell, MOp.isCall]
theorem Zg7 {n m : Nat} {a x : Opd} {h' : Heap} {cc : List Opd} : tell (.app n m a x) t h h' cc = (apartAll t (MOp.app n m a x).addrs cc = true) := by simp [tell, MOp.isCall]
theorem Zg8 {zs : List Value} {h' : Heap} {cc : List Opd} : tell (.new zs) t h h' cc = (apartAll t (MOp.new zs).addrs cc = true) := by simp [tell, MOp.isCall]
theorem Zg9 {x : Opd} {h' : Heap} {cc : List Opd} : tell (.box x) t h h' cc = (apartAll t (MOp.box x).addrs cc = true) := by simp [tell, MOp.isCall]
theorem Zha {a b : Nat} {zs : List Value} {ps : List (Nat × Nat × Opd)} {h' : Heap} {cc : List Opd} : tell (.bslice a b zs ps) t h h' cc = (apartAll t (MOp.bslice a b zs ps).addrs cc = true) := by simp [tell, MOp.isCall]
theorem Zhb {x : Opd} {h' : Heap} {cc : List Opd} : tell (.s2b x) t h h' cc = (apartAll t (MOp.s2b x).addrs cc = true) := by simp [tell, MOp.isCall]
theorem Zhc {a b : Nat} {zs : List Value} {n c : Opd} {h' : Heap} {cc : List Opd} : tell (.mkslice a b zs n c) t h h' cc = (apartAll t (MOp.mkslice a b zs n c).addrs cc = true) := by simp [tell, MOp.isCall]
theorem Zhd {x : Opd} {h' : Heap} {cc : List Opd} : tell (.rng x) t h h' cc = (apartAll t (MOp.rng x).addrs cc = true) := by simp [tell, MOp.isCall]
theorem Zhe {h' : Heap} : sameAll t h h' [] = True := by simp [sameAll]
theorem Zhf {h' : Heap} {y : Opd} {ys : List Opd} : sameAll t h h' (y :: ys) = (sameAt h h' (blkOf (ev t y)) ∧ sameAll t h h' ys) := by simp [sameAll]
theorem Zhg {h' : Heap} : sameAt h h' none = True := by simp [sameAt]
theorem Zhh {h' : Heap} {b : Nat} : sameAt h h' (some b) = (h'[b]? = h[b]?) := by simp [sameAt]
theorem Zhi {ys : List Opd} : apartAll t [] ys = true := congrArg (fun x => x) rfl
theorem Zhj {x : Opd} {xs ys : List Opd} : apartAll t (x :: xs) ys = (apart1 t (ev t x) ys && apartAll t xs ys) := congrArg (fun x => x) rfl
theorem Zhk {v : Option Value} : apart1 t v [] = true := congrArg (fun x => x) rfl
theorem Zhl {v : Option Value} {y : Opd} {ys : List Opd} : apart1 t v (y :: ys) = (apart v (ev t y) && apart1 t v ys) := congrArg (fun x => x) rfl
theorem Zhm {v w : Option Value} : apart v w = apb (blkOf v) (blkOf w) := by unfold apart apb; rfl
theorem Zhn {a b : Nat} : apb (some a) (some b) = decide (¬ a = b) := by simp [apb, bne]; rfl
theorem Zho {b : Option Nat} : apb none b = true := congrArg (fun x => x) rfl
theorem Zhp {b : Option Nat} : apb b none = true := by cases b <;> rfl
theorem Zhq {b o : Nat} {g : Option Nat} : blkOf (some (.pointer (some ⟨b, o, g⟩))) = some b := congrArg (fun x => x) rfl
theorem Zhr {b o n c : Nat} {g : Option Nat} : blkOf (some (.slice (some ⟨b, o, g⟩) n c)) = some b := congrArg (fun x => x) rfl
theorem Zhs  : blkOf (some (.pointer none)) = none := congrArg (fun x => x) rfl
theorem Zht {n c : Nat} : blkOf (some (.slice none n c)) = none := congrArg (fun x => x) rfl
theorem Zhu  : blkOf none = none := congrArg (fun x => x) rfl
theorem Zhv {s : ByteArray} : blkOf (some (.string s)) = none := congrArg (fun x => x) rfl
theorem Zhw {s : Array Value} : blkOf (some (.tuple s)) = none := congrArg (fun x => x) rfl
theorem Zhx {a b : Nat} (h : a ≤ b) : min a b = a := Nat.min_eq_left h
theorem Zhy {a b : Nat} (h : b ≤ a) : min a b = b := Nat.min_eq_right h
theorem Zhz {α : Type} {o : Option α} : o.or none = o := by cases o <;> rfl
theorem Zh0  : undefV = .tuple #[] := congrArg (fun x => x) rfl
theorem Zh1 {p : Prop} [Decidable p] : (decide p = true) = p := by simp
theorem Zh2 {α : Type} {a b : α} : (if True then a else b) = a := by simp

set_option linter.defProp false

def Zk:=(And.intro (And.intro (And.intro (And.intro (And.intro (And.intro @aop.eq_1 @aop.eq_2) (And.intro @aop.eq_3 @aop.eq_4)) (And.intro (And.intro @aop.eq_5 @aop.eq_6) (And.intro @aop.eq_7 (And.intro @aop.eq_8 @aop.eq_9)))) (And.intro (And.intro (And.intro @aop.eq_10 @aop.eq_11) (And.intro @aop.eq_12 (And.intro @aop.eq_13 @aop.eq_14))) (And.intro (And.intro @aop.eq_15 @aop.eq_16) (And.intro @aop.eq_17 (And.intro @aop.eq_18 @aop.eq_19))))) (And.intro (And.intro (And.intro (And.intro @aop.eq_20 @aop.eq_21) (And.intro @aop.eq_22 @aop.eq_23)) (And.intro (And.intro @aop.eq_24 @aop.eq_25) (And.intro @aop.eq_26 (And.intro @aop.eq_27 @aop.eq_28)))) (And.intro (And.intro (And.intro @aop.eq_29 @aop.eq_30) (And.intro @aop.eq_32 (And.intro @Nat.min_self @Nat.le_refl))) (And.intro (And.intro @true_or @or_true) (And.intro @true_and (And.intro @and_true @Nat.add_zero)))))) (And.intro (And.intro (And.intro (And.intro (And.intro @Nat.zero_add @and_self) (And.intro @Bool.false_eq_true @Bool.true_eq_false)) (And.intro (And.intro @Bool.and_true @Bool.true_and) (And.intro @Bool.and_false (And.intro @Bool.false_and @not_true_eq_false)))) (And.intro (And.intro (And.intro @not_false_eq_true @Nat.one_ne_zero) (And.intro @Nat.zero_ne_one (And.intro @decide_true @decide_false))) (And.intro (And.intro @Bool.not_true @Bool.not_false) (And.intro @Bool.not_eq_true' (And.intro @Bool.not_eq_false' @Bool.and_eq_true))))) (And.intro (And.intro (And.intro (And.intro @Bool.or_eq_true @decide_eq_false_iff_not) (And.intro @Decidable.not_not @Bool.or_true)) (And.intro (And.intro @Bool.true_or @Bool.or_false) (And.intro @Bool.false_or (And.intro @Int.toNat_zero @Int.toNat_one)))) (And.intro (And.intro (And.intro @Nat.mul_one @Nat.one_mul) (And.intro @and_false (And.intro @false_and @or_false))) (And.intro (And.intro @false_or @Bool.decide_and) (And.intro @Bool.decide_or (And.intro @false_implies @Int.toNat_natCast)))))))

end Go.AM
