/- A part of the proof: W2. -/
import Derived.Test.YtfaceobahodhmaaW1
set_option maxHeartbeats 4000000
set_option maxRecDepth 100000
namespace Go.AM
set_option linter.unusedVariables false
set_option linter.unusedSimpArgs false
variable {M : Prog}

def turn (s : UInt8) : Int := if s = 82 then 1 else if s = 85 then 2 else if s = 76 then 3 else 0

theorem woTurn_pu (hm : M n_spec_woTurn = some m_spec_woTurn) (s : UInt8) : Pu M n_spec_woTurn [.int .u8 s.toNat] (.int .i64 (turn s)) := by
  refine Pu.mk fun h => Wa_of hm ?_
  simp(config:={contextual:=true,maxSteps:=2000000,implicitDefEqProofs:=false})(disch:=first|omega|(simp only[Ze8,Ze7,List.length_map,List.length_set,List.length_append,List.length_cons,List.length_nil];first|done|omega))only[↓Zaa,↓Zab,↓Zac,↓Zad,↓Zae,↓Zaf,↓Zag,↓Zah,↓Zai,↓Zaj,↓Zak,↓Zal,↓Zam,↓Zan,↓Zao,↓Zap,↓Zaq,↓Zar,↓Zas,↓Zat,↓Zau,↓Zav,↓Zaw,↓Zax,↓Zay,↓Zaz,↓Za0,↓Za1,↓Za2,↓Za3,↓Za4,↓Za5,↓Za6,↓Za7,↓Za8,↓Za9,↓Zba,↓Zbb,↓Zbc,↓Zbd,↓Zbe,↓Zbf,↓Zbg,↓Zbh,↓Zbi,↓Zbj,↓Zbk,↓Zbl,↓Zbm,↓Zbn,↓Zbo,↓Zbp,↓Zbq,↓Zbr,↓Zbs,↓Zbt,↓Zbu,↓Zbv,↓Zbw,↓Zbx,↓Zby,↓Zbz,↓Zb0,↓reduceIte,Zb1,Zb2,Zb3,Zb4,Zb5,Zb6,Zb7,Zb8,Zbx,Zb9,Zby,Zca,Zcb,Zcc,Zcd,Zce,Zcf,Zcg,Zch,Zci,Zcj,Zck,Zcl,Zcm,Zcn,Zco,Zcp,Zcq,Zcr,Zcs,Zct,Zcu,Zcv,Zcw,Zcx,Zcy,Zcz,Zc0,Zc1,Zc2,Zc3,Zc4,Zc5,Zc6,Zc7,Zc8,Zc9,Zda,Zdb,Zdc,Zdd,Zde,Zdf,Zdg,Zdh,Zdi,Zdj,Zdk,Zdl,Zdm,Zdn,Zdo,Zdp,Zdq,Zdr,Zds,Zdt,Zdu,Zdv,Zdw,Zdx,Zdy,Zdz,Zd0,Zd1,Zd2,Zd3,Zd4,Zd5,Zd6,Zd7,Zd8,Zd9,Zea,Zeb,Zec,Zbu,Zed,Zee,Zef,Zeg,Zeh,Zei,Zej,Zek,Zel,Zem,Zen,Zeo,Zep,Zeq,Zer,Zes,Zet,Zeu,Zev,Zew,Zex,Zey,Zez,Ze0,Ze1,Ze2,Ze3,Ze4,Ze5,Ze6,Ze7,Ze8,Ze9,Zfa,Zfb,Zfc,Zfd,Zfe,Zff,Zfg,Zfh,Zfi,Zfj,Zfk,Zfl,Zfm,Zfn,Zfo,Zfp,Zfq,Zfr,Zfs,Zft,Zfu,Zfv,Zfw,Zfx,Zfy,Zfz,Zf0,Zf1,Zf2,Zf3,Zf4,Zf5,Zf6,Zf7,Zf8,Zf9,Zga,Zgb,Zgc,Zgd,Zge,Zgf,Zgg,Zgh,Zgi,Zgj,Zgk,Zgl,Zgm,Zgn,Zgo,Zgp,Zgq,Zgr,Zgs,Zgt,Zgu,Zgv,Zgw,Zgx,Zgy,Zgz,Zg0,Zg1,Zg2,Zg3,Zg4,Zg5,Zg6,Zg7,Zg8,Zg9,Zha,Zhb,Zhc,Zhd,Zhe,Zhf,Zhg,Zhh,Zhi,Zhj,Zhk,Zhl,Zhm,Zhn,Zho,Zhp,Zhq,Zhr,Zhs,Zht,Zhu,Zhv,Zhw,Zhx,Zhy,Zhz,Zh0,Zh1,Zh2,Zh3,Zbv,Zh4,Zbw,Zh5,Zh6,Zbz,Zb0,Nat.reduceBEq,reduceIte,Nat.reduceEqDiff,Nat.reduceAdd,Nat.reduceMul,Nat.reduceSub,Nat.reduceLT,Nat.reduceLeDiff,reduceCtorEq,eq_self,ne_eq,ge_iff_le,gt_iff_lt,ite_self,implies_true,Int.reduceToNat,Int.reduceNeg,Zk,m_spec_woTurn, turn]
  repeat' split
  all_goals first | trivial | (simp_all; done)

theorem turn_range (s : UInt8) : 0 ≤ turn s ∧ turn s ≤ 3 := by
  unfold turn
  split
  · omega
  · split
    · omega
    · split <;> omega

theorem Wa_eq {f : FuncId} {args : List Value} {h h' : Heap} {v : Value} {l : Nat} (he : acall M f args h = some (v, h', l)) {K : Value → Heap → Nat → Prop} : @Wa M f args h ⟨K⟩ = K v h' l := by
  apply propext; unfold Wa; rw [he]; exact ⟨fun ⟨_, _, _, h1, h2⟩ => by cases h1; exact h2, fun h2 => ⟨_, _, _, rfl, h2⟩⟩

theorem Wa_mk {f : FuncId} {args : List Value} {h h' : Heap} {v : Value} {l : Nat} (hw : @Wa M f args h ⟨fun v' h'' l' => v' = v ∧ h'' = h' ∧ l' = l⟩) : acall M f args h = some (v, h', l) := by
  obtain ⟨v', h'', l', h1, rfl, rfl, rfl⟩ := hw
  exact h1

def Wm.cells (w : Wm) : List Value := [.int .i64 w.W, .int .i64 w.H, .string (str w.R), .string (str w.D), .int .i64 w.X, .int .i64 w.Y, .int .i64 w.Way]
theorem Wm.cells_def {w : Wm} : w.cells = [.int .i64 w.W, .int .i64 w.H, .string (str w.R), .string (str w.D), .int .i64 w.X, .int .i64 w.Y, .int .i64 w.Way] := congrArg (fun x => x) rfl

def setLine (w : Wm) (x y way : Int) (c : UInt8) : Wm :=
  if isDown way then { w with D := w.D.set (lineAt w x y way).toNat c } else { w with R := w.R.set (lineAt w x y way).toNat c }

theorem set_parts {l : List UInt8} {k : Nat} {c : UInt8} (hk : k < l.length) : l.take k ++ [c] ++ l.drop (k + 1) = l.set k c := by
  rw [List.set_eq_take_append_cons_drop, if_pos hk]
  simp

theorem wmSet_eq (hm : M n_spec_wmSet = some m_spec_wmSet) (hm1 : M n_spec_wmLine = some m_spec_wmLine) (hm2 : M n_spec_l1Mod = some m_spec_l1Mod) (w : Wm) (g : w.Grid) (x y way : Int) (h5 : 0 ≤ x) (h6 : x < w.W) (h7 : 0 ≤ y) (h8 : y < w.H) (c : UInt8)
    (h : Heap) (b : Nat) (hb : h[b]? = some (.cells w.cells none true)) :
    acall M n_spec_wmSet [.pointer (some ⟨b, 0, none⟩), .int .i64 x, .int .i64 y, .int .i64 way, .string (str [c])] h = some (.tuple #[], h.set b (.cells (setLine w x y way c).cells none true), b) := by
  refine Wa_mk (Wa_of hm ?_)
  have hl := lineAt_range w g way h5 h6 h7 h8
  have gr := g.r
  have gd := g.d
  have w1 := g.w1; have w2 := g.w2; have w3 := g.h1; have w4 := g.h2
  have hbl : b < h.length := (List.getElem?_eq_some_iff.1 hb).1
  have bb := cell_lt h5 h6 h7 h8 w2 w4
  have hc := wmLine_pu hm1 hm2 w g x y way h5 h6 h7 h8
  simp only [Wm.v_def] at hc
  rw [Wm.cells_def] at hb
  have hp := set_parts (l := w.D) (k := (lineAt w x y way).toNat) (c := c) (by omega)
  have hq := set_parts (l := w.R) (k := (lineAt w x y way).toNat) (c := c) (by omega)
  have ht : (lineAt w x y way + 1).toNat = (lineAt w x y way).toNat + 1 := by omega
  cases hd : isDown way <;> rw [hd] at hc
  · simp(config:={contextual:=true,maxSteps:=2000000,implicitDefEqProofs:=false})(disch:=first|omega|(simp only[Ze8,Ze7,List.length_map,List.length_set,List.length_append,List.length_cons,List.length_nil];first|done|omega))only[↓Zaa,↓Zab,↓Zac,↓Zad,↓Zae,↓Zaf,↓Zag,↓Zah,↓Zai,↓Zaj,↓Zak,↓Zal,↓Zam,↓Zan,↓Zao,↓Zap,↓Zaq,↓Zar,↓Zas,↓Zat,↓Zau,↓Zav,↓Zaw,↓Zax,↓Zay,↓Zaz,↓Za0,↓Za1,↓Za2,↓Za3,↓Za4,↓Za5,↓Za6,↓Za7,↓Za8,↓Za9,↓Zba,↓Zbb,↓Zbc,↓Zbd,↓Zbe,↓Zbf,↓Zbg,↓Zbh,↓Zbi,↓Zbj,↓Zbk,↓Zbl,↓Zbm,↓Zbn,↓Zbo,↓Zbp,↓Zbq,↓Zbr,↓Zbs,↓Zbt,↓Zbu,↓Zbv,↓Zbw,↓Zbx,↓Zby,↓Zbz,↓Zb0,↓reduceIte,Zb1,Zb2,Zb3,Zb4,Zb5,Zb6,Zb7,Zb8,Zbx,Zb9,Zby,Zca,Zcb,Zcc,Zcd,Zce,Zcf,Zcg,Zch,Zci,Zcj,Zck,Zcl,Zcm,Zcn,Zco,Zcp,Zcq,Zcr,Zcs,Zct,Zcu,Zcv,Zcw,Zcx,Zcy,Zcz,Zc0,Zc1,Zc2,Zc3,Zc4,Zc5,Zc6,Zc7,Zc8,Zc9,Zda,Zdb,Zdc,Zdd,Zde,Zdf,Zdg,Zdh,Zdi,Zdj,Zdk,Zdl,Zdm,Zdn,Zdo,Zdp,Zdq,Zdr,Zds,Zdt,Zdu,Zdv,Zdw,Zdx,Zdy,Zdz,Zd0,Zd1,Zd2,Zd3,Zd4,Zd5,Zd6,Zd7,Zd8,Zd9,Zea,Zeb,Zec,Zbu,Zed,Zee,Zef,Zeg,Zeh,Zei,Zej,Zek,Zel,Zem,Zen,Zeo,Zep,Zeq,Zer,Zes,Zet,Zeu,Zev,Zew,Zex,Zey,Zez,Ze0,Ze1,Ze2,Ze3,Ze4,Ze5,Ze6,Ze7,Ze8,Ze9,Zfa,Zfb,Zfc,Zfd,Zfe,Zff,Zfg,Zfh,Zfi,Zfj,Zfk,Zfl,Zfm,Zfn,Zfo,Zfp,Zfq,Zfr,Zfs,Zft,Zfu,Zfv,Zfw,Zfx,Zfy,Zfz,Zf0,Zf1,Zf2,Zf3,Zf4,Zf5,Zf6,Zf7,Zf8,Zf9,Zga,Zgb,Zgc,Zgd,Zge,Zgf,Zgg,Zgh,Zgi,Zgj,Zgk,Zgl,Zgm,Zgn,Zgo,Zgp,Zgq,Zgr,Zgs,Zgt,Zgu,Zgv,Zgw,Zgx,Zgy,Zgz,Zg0,Zg1,Zg2,Zg3,Zg4,Zg5,Zg6,Zg7,Zg8,Zg9,Zha,Zhb,Zhc,Zhd,Zhe,Zhf,Zhg,Zhh,Zhi,Zhj,Zhk,Zhl,Zhm,Zhn,Zho,Zhp,Zhq,Zhr,Zhs,Zht,Zhu,Zhv,Zhw,Zhx,Zhy,Zhz,Zh0,Zh1,Zh2,Zh3,Zbv,Zh4,Zbw,Zh5,Zh6,Zbz,Zb0,Nat.reduceBEq,reduceIte,Nat.reduceEqDiff,Nat.reduceAdd,Nat.reduceMul,Nat.reduceSub,Nat.reduceLT,Nat.reduceLeDiff,reduceCtorEq,eq_self,ne_eq,ge_iff_le,gt_iff_lt,ite_self,implies_true,Int.reduceToNat,Int.reduceNeg,Zk,m_spec_wmSet, hc.wa, hb, setLine, hd, Wm.cells_def, hq, ht]
  · simp(config:={contextual:=true,maxSteps:=2000000,implicitDefEqProofs:=false})(disch:=first|omega|(simp only[Ze8,Ze7,List.length_map,List.length_set,List.length_append,List.length_cons,List.length_nil];first|done|omega))only[↓Zaa,↓Zab,↓Zac,↓Zad,↓Zae,↓Zaf,↓Zag,↓Zah,↓Zai,↓Zaj,↓Zak,↓Zal,↓Zam,↓Zan,↓Zao,↓Zap,↓Zaq,↓Zar,↓Zas,↓Zat,↓Zau,↓Zav,↓Zaw,↓Zax,↓Zay,↓Zaz,↓Za0,↓Za1,↓Za2,↓Za3,↓Za4,↓Za5,↓Za6,↓Za7,↓Za8,↓Za9,↓Zba,↓Zbb,↓Zbc,↓Zbd,↓Zbe,↓Zbf,↓Zbg,↓Zbh,↓Zbi,↓Zbj,↓Zbk,↓Zbl,↓Zbm,↓Zbn,↓Zbo,↓Zbp,↓Zbq,↓Zbr,↓Zbs,↓Zbt,↓Zbu,↓Zbv,↓Zbw,↓Zbx,↓Zby,↓Zbz,↓Zb0,↓reduceIte,Zb1,Zb2,Zb3,Zb4,Zb5,Zb6,Zb7,Zb8,Zbx,Zb9,Zby,Zca,Zcb,Zcc,Zcd,Zce,Zcf,Zcg,Zch,Zci,Zcj,Zck,Zcl,Zcm,Zcn,Zco,Zcp,Zcq,Zcr,Zcs,Zct,Zcu,Zcv,Zcw,Zcx,Zcy,Zcz,Zc0,Zc1,Zc2,Zc3,Zc4,Zc5,Zc6,Zc7,Zc8,Zc9,Zda,Zdb,Zdc,Zdd,Zde,Zdf,Zdg,Zdh,Zdi,Zdj,Zdk,Zdl,Zdm,Zdn,Zdo,Zdp,Zdq,Zdr,Zds,Zdt,Zdu,Zdv,Zdw,Zdx,Zdy,Zdz,Zd0,Zd1,Zd2,Zd3,Zd4,Zd5,Zd6,Zd7,Zd8,Zd9,Zea,Zeb,Zec,Zbu,Zed,Zee,Zef,Zeg,Zeh,Zei,Zej,Zek,Zel,Zem,Zen,Zeo,Zep,Zeq,Zer,Zes,Zet,Zeu,Zev,Zew,Zex,Zey,Zez,Ze0,Ze1,Ze2,Ze3,Ze4,Ze5,Ze6,Ze7,Ze8,Ze9,Zfa,Zfb,Zfc,Zfd,Zfe,Zff,Zfg,Zfh,Zfi,Zfj,Zfk,Zfl,Zfm,Zfn,Zfo,Zfp,Zfq,Zfr,Zfs,Zft,Zfu,Zfv,Zfw,Zfx,Zfy,Zfz,Zf0,Zf1,Zf2,Zf3,Zf4,Zf5,Zf6,Zf7,Zf8,Zf9,Zga,Zgb,Zgc,Zgd,Zge,Zgf,Zgg,Zgh,Zgi,Zgj,Zgk,Zgl,Zgm,Zgn,Zgo,Zgp,Zgq,Zgr,Zgs,Zgt,Zgu,Zgv,Zgw,Zgx,Zgy,Zgz,Zg0,Zg1,Zg2,Zg3,Zg4,Zg5,Zg6,Zg7,Zg8,Zg9,Zha,Zhb,Zhc,Zhd,Zhe,Zhf,Zhg,Zhh,Zhi,Zhj,Zhk,Zhl,Zhm,Zhn,Zho,Zhp,Zhq,Zhr,Zhs,Zht,Zhu,Zhv,Zhw,Zhx,Zhy,Zhz,Zh0,Zh1,Zh2,Zh3,Zbv,Zh4,Zbw,Zh5,Zh6,Zbz,Zb0,Nat.reduceBEq,reduceIte,Nat.reduceEqDiff,Nat.reduceAdd,Nat.reduceMul,Nat.reduceSub,Nat.reduceLT,Nat.reduceLeDiff,reduceCtorEq,eq_self,ne_eq,ge_iff_le,gt_iff_lt,ite_self,implies_true,Int.reduceToNat,Int.reduceNeg,Zk,m_spec_wmSet, hc.wa, hb, setLine, hd, Wm.cells_def, hp, ht]

def goW (w : Wm) (way n : Int) : Wm :=
  if way = 0 then { w with Y := (w.Y - n) % w.H } else if way = 1 then { w with X := (w.X + n) % w.W } else if way = 2 then { w with Y := (w.Y + n) % w.H } else { w with X := (w.X - n) % w.W }

theorem wmGo_eq (hm : M n_spec_wmGo = some m_spec_wmGo) (hm2 : M n_spec_l1Mod = some m_spec_l1Mod) (w : Wm) (way n : Int) (hn : -1 ≤ n ∧ n ≤ 1) (a1 : 3 ≤ w.W ∧ w.W ≤ 6) (a2 : 3 ≤ w.H ∧ w.H ≤ 6) (a3 : 0 ≤ w.X ∧ w.X < w.W) (a4 : 0 ≤ w.Y ∧ w.Y < w.H)
    (h : Heap) (b : Nat) (hb : h[b]? = some (.cells w.cells none true)) :
    acall M n_spec_wmGo [.pointer (some ⟨b, 0, none⟩), .int .i64 way, .int .i64 n] h = some (.tuple #[], h.set b (.cells (goW w way n).cells none true), b) := by
  refine Wa_mk (Wa_of hm ?_)
  have hbl : b < h.length := (List.getElem?_eq_some_iff.1 hb).1
  rw [Wm.cells_def] at hb
  have hc : way = 0 ∨ way = 1 ∨ way = 2 ∨ (way ≠ 0 ∧ way ≠ 1 ∧ way ≠ 2) := by omega
  rcases hc with rfl | rfl | rfl | ⟨c0, c1, c2⟩
  all_goals simp(config:={contextual:=true,maxSteps:=2000000,implicitDefEqProofs:=false})(disch:=first|omega|(simp only[Ze8,Ze7,List.length_map,List.length_set,List.length_append,List.length_cons,List.length_nil];first|done|omega))only[↓Zaa,↓Zab,↓Zac,↓Zad,↓Zae,↓Zaf,↓Zag,↓Zah,↓Zai,↓Zaj,↓Zak,↓Zal,↓Zam,↓Zan,↓Zao,↓Zap,↓Zaq,↓Zar,↓Zas,↓Zat,↓Zau,↓Zav,↓Zaw,↓Zax,↓Zay,↓Zaz,↓Za0,↓Za1,↓Za2,↓Za3,↓Za4,↓Za5,↓Za6,↓Za7,↓Za8,↓Za9,↓Zba,↓Zbb,↓Zbc,↓Zbd,↓Zbe,↓Zbf,↓Zbg,↓Zbh,↓Zbi,↓Zbj,↓Zbk,↓Zbl,↓Zbm,↓Zbn,↓Zbo,↓Zbp,↓Zbq,↓Zbr,↓Zbs,↓Zbt,↓Zbu,↓Zbv,↓Zbw,↓Zbx,↓Zby,↓Zbz,↓Zb0,↓reduceIte,Zb1,Zb2,Zb3,Zb4,Zb5,Zb6,Zb7,Zb8,Zbx,Zb9,Zby,Zca,Zcb,Zcc,Zcd,Zce,Zcf,Zcg,Zch,Zci,Zcj,Zck,Zcl,Zcm,Zcn,Zco,Zcp,Zcq,Zcr,Zcs,Zct,Zcu,Zcv,Zcw,Zcx,Zcy,Zcz,Zc0,Zc1,Zc2,Zc3,Zc4,Zc5,Zc6,Zc7,Zc8,Zc9,Zda,Zdb,Zdc,Zdd,Zde,Zdf,Zdg,Zdh,Zdi,Zdj,Zdk,Zdl,Zdm,Zdn,Zdo,Zdp,Zdq,Zdr,Zds,Zdt,Zdu,Zdv,Zdw,Zdx,Zdy,Zdz,Zd0,Zd1,Zd2,Zd3,Zd4,Zd5,Zd6,Zd7,Zd8,Zd9,Zea,Zeb,Zec,Zbu,Zed,Zee,Zef,Zeg,Zeh,Zei,Zej,Zek,Zel,Zem,Zen,Zeo,Zep,Zeq,Zer,Zes,Zet,Zeu,Zev,Zew,Zex,Zey,Zez,Ze0,Ze1,Ze2,Ze3,Ze4,Ze5,Ze6,Ze7,Ze8,Ze9,Zfa,Zfb,Zfc,Zfd,Zfe,Zff,Zfg,Zfh,Zfi,Zfj,Zfk,Zfl,Zfm,Zfn,Zfo,Zfp,Zfq,Zfr,Zfs,Zft,Zfu,Zfv,Zfw,Zfx,Zfy,Zfz,Zf0,Zf1,Zf2,Zf3,Zf4,Zf5,Zf6,Zf7,Zf8,Zf9,Zga,Zgb,Zgc,Zgd,Zge,Zgf,Zgg,Zgh,Zgi,Zgj,Zgk,Zgl,Zgm,Zgn,Zgo,Zgp,Zgq,Zgr,Zgs,Zgt,Zgu,Zgv,Zgw,Zgx,Zgy,Zgz,Zg0,Zg1,Zg2,Zg3,Zg4,Zg5,Zg6,Zg7,Zg8,Zg9,Zha,Zhb,Zhc,Zhd,Zhe,Zhf,Zhg,Zhh,Zhi,Zhj,Zhk,Zhl,Zhm,Zhn,Zho,Zhp,Zhq,Zhr,Zhs,Zht,Zhu,Zhv,Zhw,Zhx,Zhy,Zhz,Zh0,Zh1,Zh2,Zh3,Zbv,Zh4,Zbw,Zh5,Zh6,Zbz,Zb0,Nat.reduceBEq,reduceIte,Nat.reduceEqDiff,Nat.reduceAdd,Nat.reduceMul,Nat.reduceSub,Nat.reduceLT,Nat.reduceLeDiff,reduceCtorEq,eq_self,ne_eq,ge_iff_le,gt_iff_lt,ite_self,implies_true,Int.reduceToNat,Int.reduceNeg,Zk,m_spec_wmGo, (l1Mod_pu hm2 _ _ _ _ _ _).wa, hb, goW, Wm.cells_def]

end Go.AM
