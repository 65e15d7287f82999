/- A part of the proof: W6. -/
import Derived.Test.YtfaceobahodhmaaW5
set_option maxHeartbeats 4000000
set_option maxRecDepth 100000
namespace Go.AM
set_option linter.unusedVariables false
set_option linter.unusedSimpArgs false
variable {M : Prog}

def nodeV (w : Wm) : Int := w.Y * w.W + w.X
def iv (n : Int) : Value := .int .i64 n

def live (taste : List UInt8) : Nat → Wm → Wm × List UInt8 × List Int
  | 0, w => (w, [], [])
  | n + 1, w =>
    match eatFrom w taste with
    | none => (w, [], [])
    | some s => ((live taste n (bite w s)).1, s :: (live taste n (bite w s)).2.1, nodeV (bite w s) :: (live taste n (bite w s)).2.2)

def lifeOf (w : Wm) (taste : List UInt8) : Wm × List UInt8 × List Int := live taste (ones w) w

theorem lifeOf_none {w : Wm} {taste : List UInt8} (h : eatFrom w taste = none) : lifeOf w taste = (w, [], []) := by
  unfold lifeOf
  cases ones w with
  | zero => rfl
  | succ n => simp [live, h]

theorem lifeOf_some {w : Wm} (g : w.Good) {taste : List UInt8} {s : UInt8} (h : eatFrom w taste = some s) :
    lifeOf w taste = ((lifeOf (bite w s) taste).1, s :: (lifeOf (bite w s) taste).2.1, nodeV (bite w s) :: (lifeOf (bite w s) taste).2.2) := by
  unfold lifeOf
  rw [← bite_ones g h]
  simp [live, h]

theorem node_range {w : Wm} (g : w.Good) : 0 ≤ w.Y * w.W ∧ w.Y * w.W ≤ 30 ∧ 0 ≤ nodeV w ∧ nodeV w < 36 := by
  have := cell_lt g.x1 g.x2 g.y1 g.y2 g.g.w2 g.g.h2
  unfold nodeV
  omega

def zeroW : List Value := [.int .i64 0, .int .i64 0, .string (str []), .string (str []), .int .i64 0, .int .i64 0, .int .i64 0]

def wmLifeI (w0 : Wm) (taste : List UInt8) (h : Heap) (n : Nat) (t : Tm) (hh : Heap) (l : Nat) : Prop :=
  ∃ (w : Wm) (signs : List UInt8) (trk : List Int) (g : Option Nat), w.Good ∧ n = ones w ∧
    lifeOf w0 taste = ((lifeOf w taste).1, signs ++ (lifeOf w taste).2.1, (trk ++ (lifeOf w taste).2.2).tail) ∧ trk.head? = some (nodeV w0) ∧
    signs.length + ones w = ones w0 ∧ trk.length = signs.length + 1 ∧ h.length + 3 ≤ hh.length ∧ (∀ b, b < h.length → hh[b]? = h[b]?) ∧ hh[h.length]? = some (.cells w.cells none true) ∧ hh[h.length + 1]? = some (.cells zeroW none true) ∧
    hh[h.length + 2]? = some (.cells (trk.map iv) g true) ∧ l = h.length ∧ gt t 1 = some (.string (str taste)) ∧ gt t 2 = some (.pointer (some ⟨h.length, 0, none⟩)) ∧ gt t 4 = some (.pointer (some ⟨h.length + 1, 0, none⟩)) ∧
    gt t 7 = some (.string (str signs)) ∧ gt t 8 = some (.slice (some ⟨h.length + 2, 0, g⟩) trk.length 1)

def LifeK (w : Wm) (taste : List UInt8) (h : Heap) (v : Value) (h' : Heap) (l : Nat) : Prop :=
  ∃ g b, v = .tuple #[(lifeOf w taste).1.v, .string (str (lifeOf w taste).2.1), .slice (some ⟨b, 0, g⟩) ((lifeOf w taste).2.2.length + 1) 1] ∧ h.length ≤ b ∧
    h'[b]? = some (.cells ((nodeV w :: (lifeOf w taste).2.2).map iv) g true) ∧ (∀ b, b < h.length → h'[b]? = h[b]?) ∧ h.length ≤ h'.length ∧ l = h.length

theorem wmLife_w (hE : ∀ (w : Wm), w.Good → ∀ (taste : List UInt8), Ascii taste → taste.length ≤ 1000000 → ∀ (h : Heap) (b : Nat), h[b]? = some (.cells w.cells none true) →
      @Wa M n_spec_wmEat [.pointer (some ⟨b, 0, none⟩), .string (str taste)] h ⟨fun v h' l => match eatFrom w taste with
      | none => v = .string (str []) ∧ h' = h ∧ l = h.length
      | some s => v = .string (str [s]) ∧ (∃ i, h' = h.set b (.cells (bite w s).cells none true) ++ [.iter (str taste) i]) ∧ l = b⟩)
    (hm : M n_spec_wmLife = some m_spec_wmLife) (w : Wm) (g : w.Good) (hn : ones w ≤ 100) (taste : List UInt8) (ha : Ascii taste) (hlen : taste.length ≤ 1000000) (h : Heap) :
    @Wa M n_spec_wmLife [w.v, .string (str taste)] h ⟨LifeK w taste h⟩ := by
  refine Wa_of hm ?_
  have nr := node_range g
  unfold nodeV at nr
  simp(config:={contextual:=true,maxSteps:=2000000,implicitDefEqProofs:=false})(disch:=first|omega|(simp only[Ze8,Ze7,List.length_map,List.length_set,List.length_append,List.length_cons,List.length_nil];first|done|omega))only[↓Zaa,↓Zab,↓Zac,↓Zad,↓Zae,↓Zaf,↓Zag,↓Zah,↓Zai,↓Zaj,↓Zak,↓Zal,↓Zam,↓Zan,↓Zao,↓Zap,↓Zaq,↓Zar,↓Zas,↓Zat,↓Zau,↓Zav,↓Zaw,↓Zax,↓Zay,↓Zaz,↓Za0,↓Za1,↓Za2,↓Za3,↓Za4,↓Za5,↓Za6,↓Za7,↓Za8,↓Za9,↓Zba,↓Zbb,↓Zbc,↓Zbd,↓Zbe,↓Zbf,↓Zbg,↓Zbh,↓Zbi,↓Zbj,↓Zbk,↓Zbl,↓Zbm,↓Zbn,↓Zbo,↓Zbp,↓Zbq,↓Zbr,↓Zbs,↓Zbt,↓Zbu,↓Zbv,↓Zbw,↓Zbx,↓Zby,↓Zbz,↓Zb0,↓reduceIte,Zb1,Zb2,Zb3,Zb4,Zb5,Zb6,Zb7,Zb8,Zbx,Zb9,Zby,Zca,Zcb,Zcc,Zcd,Zce,Zcf,Zcg,Zch,Zci,Zcj,Zck,Zcl,Zcm,Zcn,Zco,Zcp,Zcq,Zcr,Zcs,Zct,Zcu,Zcv,Zcw,Zcx,Zcy,Zcz,Zc0,Zc1,Zc2,Zc3,Zc4,Zc5,Zc6,Zc7,Zc8,Zc9,Zda,Zdb,Zdc,Zdd,Zde,Zdf,Zdg,Zdh,Zdi,Zdj,Zdk,Zdl,Zdm,Zdn,Zdo,Zdp,Zdq,Zdr,Zds,Zdt,Zdu,Zdv,Zdw,Zdx,Zdy,Zdz,Zd0,Zd1,Zd2,Zd3,Zd4,Zd5,Zd6,Zd7,Zd8,Zd9,Zea,Zeb,Zec,Zbu,Zed,Zee,Zef,Zeg,Zeh,Zei,Zej,Zek,Zel,Zem,Zen,Zeo,Zep,Zeq,Zer,Zes,Zet,Zeu,Zev,Zew,Zex,Zey,Zez,Ze0,Ze1,Ze2,Ze3,Ze4,Ze5,Ze6,Ze7,Ze8,Ze9,Zfa,Zfb,Zfc,Zfd,Zfe,Zff,Zfg,Zfh,Zfi,Zfj,Zfk,Zfl,Zfm,Zfn,Zfo,Zfp,Zfq,Zfr,Zfs,Zft,Zfu,Zfv,Zfw,Zfx,Zfy,Zfz,Zf0,Zf1,Zf2,Zf3,Zf4,Zf5,Zf6,Zf7,Zf8,Zf9,Zga,Zgb,Zgc,Zgd,Zge,Zgf,Zgg,Zgh,Zgi,Zgj,Zgk,Zgl,Zgm,Zgn,Zgo,Zgp,Zgq,Zgr,Zgs,Zgt,Zgu,Zgv,Zgw,Zgx,Zgy,Zgz,Zg0,Zg1,Zg2,Zg3,Zg4,Zg5,Zg6,Zg7,Zg8,Zg9,Zha,Zhb,Zhc,Zhd,Zhe,Zhf,Zhg,Zhh,Zhi,Zhj,Zhk,Zhl,Zhm,Zhn,Zho,Zhp,Zhq,Zhr,Zhs,Zht,Zhu,Zhv,Zhw,Zhx,Zhy,Zhz,Zh0,Zh1,Zh2,Zh3,Zbv,Zh4,Zbw,Zh5,Zh6,Zbz,Zb0,Nat.reduceBEq,reduceIte,Nat.reduceEqDiff,Nat.reduceAdd,Nat.reduceMul,Nat.reduceSub,Nat.reduceLT,Nat.reduceLeDiff,reduceCtorEq,eq_self,ne_eq,ge_iff_le,gt_iff_lt,ite_self,implies_true,Int.reduceToNat,Int.reduceNeg,Zk,m_spec_wmLife, Wm.v_def]
  refine Wc_loop (wmLifeI w taste h) (ones w) ?_ ?_
  · refine ⟨w, [], [nodeV w], none, g, rfl, rfl, rfl, by simp, rfl, by simp, fun b hb => ?_, ?_⟩
    · simp(config:={contextual:=true,maxSteps:=2000000,implicitDefEqProofs:=false})(disch:=first|omega|(simp only[Ze8,Ze7,List.length_map,List.length_set,List.length_append,List.length_cons,List.length_nil];first|done|omega))only[↓Zaa,↓Zab,↓Zac,↓Zad,↓Zae,↓Zaf,↓Zag,↓Zah,↓Zai,↓Zaj,↓Zak,↓Zal,↓Zam,↓Zan,↓Zao,↓Zap,↓Zaq,↓Zar,↓Zas,↓Zat,↓Zau,↓Zav,↓Zaw,↓Zax,↓Zay,↓Zaz,↓Za0,↓Za1,↓Za2,↓Za3,↓Za4,↓Za5,↓Za6,↓Za7,↓Za8,↓Za9,↓Zba,↓Zbb,↓Zbc,↓Zbd,↓Zbe,↓Zbf,↓Zbg,↓Zbh,↓Zbi,↓Zbj,↓Zbk,↓Zbl,↓Zbm,↓Zbn,↓Zbo,↓Zbp,↓Zbq,↓Zbr,↓Zbs,↓Zbt,↓Zbu,↓Zbv,↓Zbw,↓Zbx,↓Zby,↓Zbz,↓Zb0,↓reduceIte,Zb1,Zb2,Zb3,Zb4,Zb5,Zb6,Zb7,Zb8,Zbx,Zb9,Zby,Zca,Zcb,Zcc,Zcd,Zce,Zcf,Zcg,Zch,Zci,Zcj,Zck,Zcl,Zcm,Zcn,Zco,Zcp,Zcq,Zcr,Zcs,Zct,Zcu,Zcv,Zcw,Zcx,Zcy,Zcz,Zc0,Zc1,Zc2,Zc3,Zc4,Zc5,Zc6,Zc7,Zc8,Zc9,Zda,Zdb,Zdc,Zdd,Zde,Zdf,Zdg,Zdh,Zdi,Zdj,Zdk,Zdl,Zdm,Zdn,Zdo,Zdp,Zdq,Zdr,Zds,Zdt,Zdu,Zdv,Zdw,Zdx,Zdy,Zdz,Zd0,Zd1,Zd2,Zd3,Zd4,Zd5,Zd6,Zd7,Zd8,Zd9,Zea,Zeb,Zec,Zbu,Zed,Zee,Zef,Zeg,Zeh,Zei,Zej,Zek,Zel,Zem,Zen,Zeo,Zep,Zeq,Zer,Zes,Zet,Zeu,Zev,Zew,Zex,Zey,Zez,Ze0,Ze1,Ze2,Ze3,Ze4,Ze5,Ze6,Ze7,Ze8,Ze9,Zfa,Zfb,Zfc,Zfd,Zfe,Zff,Zfg,Zfh,Zfi,Zfj,Zfk,Zfl,Zfm,Zfn,Zfo,Zfp,Zfq,Zfr,Zfs,Zft,Zfu,Zfv,Zfw,Zfx,Zfy,Zfz,Zf0,Zf1,Zf2,Zf3,Zf4,Zf5,Zf6,Zf7,Zf8,Zf9,Zga,Zgb,Zgc,Zgd,Zge,Zgf,Zgg,Zgh,Zgi,Zgj,Zgk,Zgl,Zgm,Zgn,Zgo,Zgp,Zgq,Zgr,Zgs,Zgt,Zgu,Zgv,Zgw,Zgx,Zgy,Zgz,Zg0,Zg1,Zg2,Zg3,Zg4,Zg5,Zg6,Zg7,Zg8,Zg9,Zha,Zhb,Zhc,Zhd,Zhe,Zhf,Zhg,Zhh,Zhi,Zhj,Zhk,Zhl,Zhm,Zhn,Zho,Zhp,Zhq,Zhr,Zhs,Zht,Zhu,Zhv,Zhw,Zhx,Zhy,Zhz,Zh0,Zh1,Zh2,Zh3,Zbv,Zh4,Zbw,Zh5,Zh6,Zbz,Zb0,Nat.reduceBEq,reduceIte,Nat.reduceEqDiff,Nat.reduceAdd,Nat.reduceMul,Nat.reduceSub,Nat.reduceLT,Nat.reduceLeDiff,reduceCtorEq,eq_self,ne_eq,ge_iff_le,gt_iff_lt,ite_self,implies_true,Int.reduceToNat,Int.reduceNeg,Zk,]
    · simp(config:={contextual:=true,maxSteps:=2000000,implicitDefEqProofs:=false})(disch:=first|omega|(simp only[Ze8,Ze7,List.length_map,List.length_set,List.length_append,List.length_cons,List.length_nil];first|done|omega))only[↓Zaa,↓Zab,↓Zac,↓Zad,↓Zae,↓Zaf,↓Zag,↓Zah,↓Zai,↓Zaj,↓Zak,↓Zal,↓Zam,↓Zan,↓Zao,↓Zap,↓Zaq,↓Zar,↓Zas,↓Zat,↓Zau,↓Zav,↓Zaw,↓Zax,↓Zay,↓Zaz,↓Za0,↓Za1,↓Za2,↓Za3,↓Za4,↓Za5,↓Za6,↓Za7,↓Za8,↓Za9,↓Zba,↓Zbb,↓Zbc,↓Zbd,↓Zbe,↓Zbf,↓Zbg,↓Zbh,↓Zbi,↓Zbj,↓Zbk,↓Zbl,↓Zbm,↓Zbn,↓Zbo,↓Zbp,↓Zbq,↓Zbr,↓Zbs,↓Zbt,↓Zbu,↓Zbv,↓Zbw,↓Zbx,↓Zby,↓Zbz,↓Zb0,↓reduceIte,Zb1,Zb2,Zb3,Zb4,Zb5,Zb6,Zb7,Zb8,Zbx,Zb9,Zby,Zca,Zcb,Zcc,Zcd,Zce,Zcf,Zcg,Zch,Zci,Zcj,Zck,Zcl,Zcm,Zcn,Zco,Zcp,Zcq,Zcr,Zcs,Zct,Zcu,Zcv,Zcw,Zcx,Zcy,Zcz,Zc0,Zc1,Zc2,Zc3,Zc4,Zc5,Zc6,Zc7,Zc8,Zc9,Zda,Zdb,Zdc,Zdd,Zde,Zdf,Zdg,Zdh,Zdi,Zdj,Zdk,Zdl,Zdm,Zdn,Zdo,Zdp,Zdq,Zdr,Zds,Zdt,Zdu,Zdv,Zdw,Zdx,Zdy,Zdz,Zd0,Zd1,Zd2,Zd3,Zd4,Zd5,Zd6,Zd7,Zd8,Zd9,Zea,Zeb,Zec,Zbu,Zed,Zee,Zef,Zeg,Zeh,Zei,Zej,Zek,Zel,Zem,Zen,Zeo,Zep,Zeq,Zer,Zes,Zet,Zeu,Zev,Zew,Zex,Zey,Zez,Ze0,Ze1,Ze2,Ze3,Ze4,Ze5,Ze6,Ze7,Ze8,Ze9,Zfa,Zfb,Zfc,Zfd,Zfe,Zff,Zfg,Zfh,Zfi,Zfj,Zfk,Zfl,Zfm,Zfn,Zfo,Zfp,Zfq,Zfr,Zfs,Zft,Zfu,Zfv,Zfw,Zfx,Zfy,Zfz,Zf0,Zf1,Zf2,Zf3,Zf4,Zf5,Zf6,Zf7,Zf8,Zf9,Zga,Zgb,Zgc,Zgd,Zge,Zgf,Zgg,Zgh,Zgi,Zgj,Zgk,Zgl,Zgm,Zgn,Zgo,Zgp,Zgq,Zgr,Zgs,Zgt,Zgu,Zgv,Zgw,Zgx,Zgy,Zgz,Zg0,Zg1,Zg2,Zg3,Zg4,Zg5,Zg6,Zg7,Zg8,Zg9,Zha,Zhb,Zhc,Zhd,Zhe,Zhf,Zhg,Zhh,Zhi,Zhj,Zhk,Zhl,Zhm,Zhn,Zho,Zhp,Zhq,Zhr,Zhs,Zht,Zhu,Zhv,Zhw,Zhx,Zhy,Zhz,Zh0,Zh1,Zh2,Zh3,Zbv,Zh4,Zbw,Zh5,Zh6,Zbz,Zb0,Nat.reduceBEq,reduceIte,Nat.reduceEqDiff,Nat.reduceAdd,Nat.reduceMul,Nat.reduceSub,Nat.reduceLT,Nat.reduceLeDiff,reduceCtorEq,eq_self,ne_eq,ge_iff_le,gt_iff_lt,ite_self,implies_true,Int.reduceToNat,Int.reduceNeg,Zk,Wm.cells_def, zeroW, List.map, iv, nodeV]
  · rintro n t hh l ⟨w', signs, trk, gen, g', rfl, hlife, htrk, hs, hs2, hl, hold, h0, h1, h2, rfl, t1, t2, t4, t7, t8⟩
    simp(config:={contextual:=true,maxSteps:=2000000,implicitDefEqProofs:=false})(disch:=first|omega|(simp only[Ze8,Ze7,List.length_map,List.length_set,List.length_append,List.length_cons,List.length_nil];first|done|omega))only[↓Zaa,↓Zab,↓Zac,↓Zad,↓Zae,↓Zaf,↓Zag,↓Zah,↓Zai,↓Zaj,↓Zak,↓Zal,↓Zam,↓Zan,↓Zao,↓Zap,↓Zaq,↓Zar,↓Zas,↓Zat,↓Zau,↓Zav,↓Zaw,↓Zax,↓Zay,↓Zaz,↓Za0,↓Za1,↓Za2,↓Za3,↓Za4,↓Za5,↓Za6,↓Za7,↓Za8,↓Za9,↓Zba,↓Zbb,↓Zbc,↓Zbd,↓Zbe,↓Zbf,↓Zbg,↓Zbh,↓Zbi,↓Zbj,↓Zbk,↓Zbl,↓Zbm,↓Zbn,↓Zbo,↓Zbp,↓Zbq,↓Zbr,↓Zbs,↓Zbt,↓Zbu,↓Zbv,↓Zbw,↓Zbx,↓Zby,↓Zbz,↓Zb0,↓reduceIte,Zb1,Zb2,Zb3,Zb4,Zb5,Zb6,Zb7,Zb8,Zbx,Zb9,Zby,Zca,Zcb,Zcc,Zcd,Zce,Zcf,Zcg,Zch,Zci,Zcj,Zck,Zcl,Zcm,Zcn,Zco,Zcp,Zcq,Zcr,Zcs,Zct,Zcu,Zcv,Zcw,Zcx,Zcy,Zcz,Zc0,Zc1,Zc2,Zc3,Zc4,Zc5,Zc6,Zc7,Zc8,Zc9,Zda,Zdb,Zdc,Zdd,Zde,Zdf,Zdg,Zdh,Zdi,Zdj,Zdk,Zdl,Zdm,Zdn,Zdo,Zdp,Zdq,Zdr,Zds,Zdt,Zdu,Zdv,Zdw,Zdx,Zdy,Zdz,Zd0,Zd1,Zd2,Zd3,Zd4,Zd5,Zd6,Zd7,Zd8,Zd9,Zea,Zeb,Zec,Zbu,Zed,Zee,Zef,Zeg,Zeh,Zei,Zej,Zek,Zel,Zem,Zen,Zeo,Zep,Zeq,Zer,Zes,Zet,Zeu,Zev,Zew,Zex,Zey,Zez,Ze0,Ze1,Ze2,Ze3,Ze4,Ze5,Ze6,Ze7,Ze8,Ze9,Zfa,Zfb,Zfc,Zfd,Zfe,Zff,Zfg,Zfh,Zfi,Zfj,Zfk,Zfl,Zfm,Zfn,Zfo,Zfp,Zfq,Zfr,Zfs,Zft,Zfu,Zfv,Zfw,Zfx,Zfy,Zfz,Zf0,Zf1,Zf2,Zf3,Zf4,Zf5,Zf6,Zf7,Zf8,Zf9,Zga,Zgb,Zgc,Zgd,Zge,Zgf,Zgg,Zgh,Zgi,Zgj,Zgk,Zgl,Zgm,Zgn,Zgo,Zgp,Zgq,Zgr,Zgs,Zgt,Zgu,Zgv,Zgw,Zgx,Zgy,Zgz,Zg0,Zg1,Zg2,Zg3,Zg4,Zg5,Zg6,Zg7,Zg8,Zg9,Zha,Zhb,Zhc,Zhd,Zhe,Zhf,Zhg,Zhh,Zhi,Zhj,Zhk,Zhl,Zhm,Zhn,Zho,Zhp,Zhq,Zhr,Zhs,Zht,Zhu,Zhv,Zhw,Zhx,Zhy,Zhz,Zh0,Zh1,Zh2,Zh3,Zbv,Zh4,Zbw,Zh5,Zh6,Zbz,Zb0,Nat.reduceBEq,reduceIte,Nat.reduceEqDiff,Nat.reduceAdd,Nat.reduceMul,Nat.reduceSub,Nat.reduceLT,Nat.reduceLeDiff,reduceCtorEq,eq_self,ne_eq,ge_iff_le,gt_iff_lt,ite_self,implies_true,Int.reduceToNat,Int.reduceNeg,Zk,t1, t2, t4, t7, t8]
    refine (hE w' g' taste ha hlen hh h.length h0).mono fun v h' l hk => ?_
    have hc : h.length < hh.length := by omega
    have nr := node_range g'
    rw [Wm.cells_def] at h0
    cases he : eatFrom w' taste with
    | none =>
      rw [he] at hk
      obtain ⟨rfl, rfl, rfl⟩ := hk
      rw [lifeOf_none he] at hlife
      simp(config:={contextual:=true,maxSteps:=2000000,implicitDefEqProofs:=false})(disch:=first|omega|(simp only[Ze8,Ze7,List.length_map,List.length_set,List.length_append,List.length_cons,List.length_nil];first|done|omega))only[↓Zaa,↓Zab,↓Zac,↓Zad,↓Zae,↓Zaf,↓Zag,↓Zah,↓Zai,↓Zaj,↓Zak,↓Zal,↓Zam,↓Zan,↓Zao,↓Zap,↓Zaq,↓Zar,↓Zas,↓Zat,↓Zau,↓Zav,↓Zaw,↓Zax,↓Zay,↓Zaz,↓Za0,↓Za1,↓Za2,↓Za3,↓Za4,↓Za5,↓Za6,↓Za7,↓Za8,↓Za9,↓Zba,↓Zbb,↓Zbc,↓Zbd,↓Zbe,↓Zbf,↓Zbg,↓Zbh,↓Zbi,↓Zbj,↓Zbk,↓Zbl,↓Zbm,↓Zbn,↓Zbo,↓Zbp,↓Zbq,↓Zbr,↓Zbs,↓Zbt,↓Zbu,↓Zbv,↓Zbw,↓Zbx,↓Zby,↓Zbz,↓Zb0,↓reduceIte,Zb1,Zb2,Zb3,Zb4,Zb5,Zb6,Zb7,Zb8,Zbx,Zb9,Zby,Zca,Zcb,Zcc,Zcd,Zce,Zcf,Zcg,Zch,Zci,Zcj,Zck,Zcl,Zcm,Zcn,Zco,Zcp,Zcq,Zcr,Zcs,Zct,Zcu,Zcv,Zcw,Zcx,Zcy,Zcz,Zc0,Zc1,Zc2,Zc3,Zc4,Zc5,Zc6,Zc7,Zc8,Zc9,Zda,Zdb,Zdc,Zdd,Zde,Zdf,Zdg,Zdh,Zdi,Zdj,Zdk,Zdl,Zdm,Zdn,Zdo,Zdp,Zdq,Zdr,Zds,Zdt,Zdu,Zdv,Zdw,Zdx,Zdy,Zdz,Zd0,Zd1,Zd2,Zd3,Zd4,Zd5,Zd6,Zd7,Zd8,Zd9,Zea,Zeb,Zec,Zbu,Zed,Zee,Zef,Zeg,Zeh,Zei,Zej,Zek,Zel,Zem,Zen,Zeo,Zep,Zeq,Zer,Zes,Zet,Zeu,Zev,Zew,Zex,Zey,Zez,Ze0,Ze1,Ze2,Ze3,Ze4,Ze5,Ze6,Ze7,Ze8,Ze9,Zfa,Zfb,Zfc,Zfd,Zfe,Zff,Zfg,Zfh,Zfi,Zfj,Zfk,Zfl,Zfm,Zfn,Zfo,Zfp,Zfq,Zfr,Zfs,Zft,Zfu,Zfv,Zfw,Zfx,Zfy,Zfz,Zf0,Zf1,Zf2,Zf3,Zf4,Zf5,Zf6,Zf7,Zf8,Zf9,Zga,Zgb,Zgc,Zgd,Zge,Zgf,Zgg,Zgh,Zgi,Zgj,Zgk,Zgl,Zgm,Zgn,Zgo,Zgp,Zgq,Zgr,Zgs,Zgt,Zgu,Zgv,Zgw,Zgx,Zgy,Zgz,Zg0,Zg1,Zg2,Zg3,Zg4,Zg5,Zg6,Zg7,Zg8,Zg9,Zha,Zhb,Zhc,Zhd,Zhe,Zhf,Zhg,Zhh,Zhi,Zhj,Zhk,Zhl,Zhm,Zhn,Zho,Zhp,Zhq,Zhr,Zhs,Zht,Zhu,Zhv,Zhw,Zhx,Zhy,Zhz,Zh0,Zh1,Zh2,Zh3,Zbv,Zh4,Zbw,Zh5,Zh6,Zbz,Zb0,Nat.reduceBEq,reduceIte,Nat.reduceEqDiff,Nat.reduceAdd,Nat.reduceMul,Nat.reduceSub,Nat.reduceLT,Nat.reduceLeDiff,reduceCtorEq,eq_self,ne_eq,ge_iff_le,gt_iff_lt,ite_self,implies_true,Int.reduceToNat,Int.reduceNeg,Zk,t1, t2, t4, t7, t8, h0, h1, h2, m_spec_wmLife, zeroW]
      have htl : trk = nodeV w :: trk.tail := by
        cases trk with
        | nil => cases htrk
        | cons a r => simp at htrk; rw [htrk]; rfl
      refine ⟨gen, h.length + 2, ?_, by omega, ?_, fun b hb => ?_, by simp; omega, rfl⟩
      · rw [hlife, Wm.v_def]
        simp
        omega
      · rw [hlife, Zex (by omega), h2]
        simp
        rw [htl]
        rfl
      · rw [Zex (by omega), hold b hb]
    | some s =>
      rw [he] at hk
      obtain ⟨rfl, ⟨i, rfl⟩, rfl⟩ := hk
      have gb := bite_good g' s
      have nb := node_range gb
      unfold nodeV at nb
      rw [lifeOf_some g' he] at hlife
      simp(config:={contextual:=true,maxSteps:=2000000,implicitDefEqProofs:=false})(disch:=first|omega|(simp only[Ze8,Ze7,List.length_map,List.length_set,List.length_append,List.length_cons,List.length_nil];first|done|omega))only[↓Zaa,↓Zab,↓Zac,↓Zad,↓Zae,↓Zaf,↓Zag,↓Zah,↓Zai,↓Zaj,↓Zak,↓Zal,↓Zam,↓Zan,↓Zao,↓Zap,↓Zaq,↓Zar,↓Zas,↓Zat,↓Zau,↓Zav,↓Zaw,↓Zax,↓Zay,↓Zaz,↓Za0,↓Za1,↓Za2,↓Za3,↓Za4,↓Za5,↓Za6,↓Za7,↓Za8,↓Za9,↓Zba,↓Zbb,↓Zbc,↓Zbd,↓Zbe,↓Zbf,↓Zbg,↓Zbh,↓Zbi,↓Zbj,↓Zbk,↓Zbl,↓Zbm,↓Zbn,↓Zbo,↓Zbp,↓Zbq,↓Zbr,↓Zbs,↓Zbt,↓Zbu,↓Zbv,↓Zbw,↓Zbx,↓Zby,↓Zbz,↓Zb0,↓reduceIte,Zb1,Zb2,Zb3,Zb4,Zb5,Zb6,Zb7,Zb8,Zbx,Zb9,Zby,Zca,Zcb,Zcc,Zcd,Zce,Zcf,Zcg,Zch,Zci,Zcj,Zck,Zcl,Zcm,Zcn,Zco,Zcp,Zcq,Zcr,Zcs,Zct,Zcu,Zcv,Zcw,Zcx,Zcy,Zcz,Zc0,Zc1,Zc2,Zc3,Zc4,Zc5,Zc6,Zc7,Zc8,Zc9,Zda,Zdb,Zdc,Zdd,Zde,Zdf,Zdg,Zdh,Zdi,Zdj,Zdk,Zdl,Zdm,Zdn,Zdo,Zdp,Zdq,Zdr,Zds,Zdt,Zdu,Zdv,Zdw,Zdx,Zdy,Zdz,Zd0,Zd1,Zd2,Zd3,Zd4,Zd5,Zd6,Zd7,Zd8,Zd9,Zea,Zeb,Zec,Zbu,Zed,Zee,Zef,Zeg,Zeh,Zei,Zej,Zek,Zel,Zem,Zen,Zeo,Zep,Zeq,Zer,Zes,Zet,Zeu,Zev,Zew,Zex,Zey,Zez,Ze0,Ze1,Ze2,Ze3,Ze4,Ze5,Ze6,Ze7,Ze8,Ze9,Zfa,Zfb,Zfc,Zfd,Zfe,Zff,Zfg,Zfh,Zfi,Zfj,Zfk,Zfl,Zfm,Zfn,Zfo,Zfp,Zfq,Zfr,Zfs,Zft,Zfu,Zfv,Zfw,Zfx,Zfy,Zfz,Zf0,Zf1,Zf2,Zf3,Zf4,Zf5,Zf6,Zf7,Zf8,Zf9,Zga,Zgb,Zgc,Zgd,Zge,Zgf,Zgg,Zgh,Zgi,Zgj,Zgk,Zgl,Zgm,Zgn,Zgo,Zgp,Zgq,Zgr,Zgs,Zgt,Zgu,Zgv,Zgw,Zgx,Zgy,Zgz,Zg0,Zg1,Zg2,Zg3,Zg4,Zg5,Zg6,Zg7,Zg8,Zg9,Zha,Zhb,Zhc,Zhd,Zhe,Zhf,Zhg,Zhh,Zhi,Zhj,Zhk,Zhl,Zhm,Zhn,Zho,Zhp,Zhq,Zhr,Zhs,Zht,Zhu,Zhv,Zhw,Zhx,Zhy,Zhz,Zh0,Zh1,Zh2,Zh3,Zbv,Zh4,Zbw,Zh5,Zh6,Zbz,Zb0,Nat.reduceBEq,reduceIte,Nat.reduceEqDiff,Nat.reduceAdd,Nat.reduceMul,Nat.reduceSub,Nat.reduceLT,Nat.reduceLeDiff,reduceCtorEq,eq_self,ne_eq,ge_iff_le,gt_iff_lt,ite_self,implies_true,Int.reduceToNat,Int.reduceNeg,Zk,t1, t2, t4, t7, t8, h0, h1, h2, m_spec_wmLife, zeroW, Wm.cells_def, appArg.eq_2, List.length_map, room]
      have ho := bite_ones g' he
      have hmap : List.map iv trk ++ [Value.int IntKind.i64 ((bite w' s).Y * (bite w' s).W + (bite w' s).X)] = (trk ++ [nodeV (bite w' s)]).map iv := by
        rw [List.map_append]
        rfl
      rw [hmap]
      refine again.mk (ones (bite w' s)) (by omega) ⟨bite w' s, signs ++ [s], trk ++ [nodeV (bite w' s)], nextg gen, gb, rfl, ?_, ?_, by simp; omega, by simp; omega, by simp; omega, fun b hb => ?_, ?_⟩
      · rw [hlife, List.append_assoc, List.append_assoc]
        rfl
      · rw [List.head?_append, htrk]
        rfl
      · simp(config:={contextual:=true,maxSteps:=2000000,implicitDefEqProofs:=false})(disch:=first|omega|(simp only[Ze8,Ze7,List.length_map,List.length_set,List.length_append,List.length_cons,List.length_nil];first|done|omega))only[↓Zaa,↓Zab,↓Zac,↓Zad,↓Zae,↓Zaf,↓Zag,↓Zah,↓Zai,↓Zaj,↓Zak,↓Zal,↓Zam,↓Zan,↓Zao,↓Zap,↓Zaq,↓Zar,↓Zas,↓Zat,↓Zau,↓Zav,↓Zaw,↓Zax,↓Zay,↓Zaz,↓Za0,↓Za1,↓Za2,↓Za3,↓Za4,↓Za5,↓Za6,↓Za7,↓Za8,↓Za9,↓Zba,↓Zbb,↓Zbc,↓Zbd,↓Zbe,↓Zbf,↓Zbg,↓Zbh,↓Zbi,↓Zbj,↓Zbk,↓Zbl,↓Zbm,↓Zbn,↓Zbo,↓Zbp,↓Zbq,↓Zbr,↓Zbs,↓Zbt,↓Zbu,↓Zbv,↓Zbw,↓Zbx,↓Zby,↓Zbz,↓Zb0,↓reduceIte,Zb1,Zb2,Zb3,Zb4,Zb5,Zb6,Zb7,Zb8,Zbx,Zb9,Zby,Zca,Zcb,Zcc,Zcd,Zce,Zcf,Zcg,Zch,Zci,Zcj,Zck,Zcl,Zcm,Zcn,Zco,Zcp,Zcq,Zcr,Zcs,Zct,Zcu,Zcv,Zcw,Zcx,Zcy,Zcz,Zc0,Zc1,Zc2,Zc3,Zc4,Zc5,Zc6,Zc7,Zc8,Zc9,Zda,Zdb,Zdc,Zdd,Zde,Zdf,Zdg,Zdh,Zdi,Zdj,Zdk,Zdl,Zdm,Zdn,Zdo,Zdp,Zdq,Zdr,Zds,Zdt,Zdu,Zdv,Zdw,Zdx,Zdy,Zdz,Zd0,Zd1,Zd2,Zd3,Zd4,Zd5,Zd6,Zd7,Zd8,Zd9,Zea,Zeb,Zec,Zbu,Zed,Zee,Zef,Zeg,Zeh,Zei,Zej,Zek,Zel,Zem,Zen,Zeo,Zep,Zeq,Zer,Zes,Zet,Zeu,Zev,Zew,Zex,Zey,Zez,Ze0,Ze1,Ze2,Ze3,Ze4,Ze5,Ze6,Ze7,Ze8,Ze9,Zfa,Zfb,Zfc,Zfd,Zfe,Zff,Zfg,Zfh,Zfi,Zfj,Zfk,Zfl,Zfm,Zfn,Zfo,Zfp,Zfq,Zfr,Zfs,Zft,Zfu,Zfv,Zfw,Zfx,Zfy,Zfz,Zf0,Zf1,Zf2,Zf3,Zf4,Zf5,Zf6,Zf7,Zf8,Zf9,Zga,Zgb,Zgc,Zgd,Zge,Zgf,Zgg,Zgh,Zgi,Zgj,Zgk,Zgl,Zgm,Zgn,Zgo,Zgp,Zgq,Zgr,Zgs,Zgt,Zgu,Zgv,Zgw,Zgx,Zgy,Zgz,Zg0,Zg1,Zg2,Zg3,Zg4,Zg5,Zg6,Zg7,Zg8,Zg9,Zha,Zhb,Zhc,Zhd,Zhe,Zhf,Zhg,Zhh,Zhi,Zhj,Zhk,Zhl,Zhm,Zhn,Zho,Zhp,Zhq,Zhr,Zhs,Zht,Zhu,Zhv,Zhw,Zhx,Zhy,Zhz,Zh0,Zh1,Zh2,Zh3,Zbv,Zh4,Zbw,Zh5,Zh6,Zbz,Zb0,Nat.reduceBEq,reduceIte,Nat.reduceEqDiff,Nat.reduceAdd,Nat.reduceMul,Nat.reduceSub,Nat.reduceLT,Nat.reduceLeDiff,reduceCtorEq,eq_self,ne_eq,ge_iff_le,gt_iff_lt,ite_self,implies_true,Int.reduceToNat,Int.reduceNeg,Zk,hold b hb]
      · simp(config:={contextual:=true,maxSteps:=2000000,implicitDefEqProofs:=false})(disch:=first|omega|(simp only[Ze8,Ze7,List.length_map,List.length_set,List.length_append,List.length_cons,List.length_nil];first|done|omega))only[↓Zaa,↓Zab,↓Zac,↓Zad,↓Zae,↓Zaf,↓Zag,↓Zah,↓Zai,↓Zaj,↓Zak,↓Zal,↓Zam,↓Zan,↓Zao,↓Zap,↓Zaq,↓Zar,↓Zas,↓Zat,↓Zau,↓Zav,↓Zaw,↓Zax,↓Zay,↓Zaz,↓Za0,↓Za1,↓Za2,↓Za3,↓Za4,↓Za5,↓Za6,↓Za7,↓Za8,↓Za9,↓Zba,↓Zbb,↓Zbc,↓Zbd,↓Zbe,↓Zbf,↓Zbg,↓Zbh,↓Zbi,↓Zbj,↓Zbk,↓Zbl,↓Zbm,↓Zbn,↓Zbo,↓Zbp,↓Zbq,↓Zbr,↓Zbs,↓Zbt,↓Zbu,↓Zbv,↓Zbw,↓Zbx,↓Zby,↓Zbz,↓Zb0,↓reduceIte,Zb1,Zb2,Zb3,Zb4,Zb5,Zb6,Zb7,Zb8,Zbx,Zb9,Zby,Zca,Zcb,Zcc,Zcd,Zce,Zcf,Zcg,Zch,Zci,Zcj,Zck,Zcl,Zcm,Zcn,Zco,Zcp,Zcq,Zcr,Zcs,Zct,Zcu,Zcv,Zcw,Zcx,Zcy,Zcz,Zc0,Zc1,Zc2,Zc3,Zc4,Zc5,Zc6,Zc7,Zc8,Zc9,Zda,Zdb,Zdc,Zdd,Zde,Zdf,Zdg,Zdh,Zdi,Zdj,Zdk,Zdl,Zdm,Zdn,Zdo,Zdp,Zdq,Zdr,Zds,Zdt,Zdu,Zdv,Zdw,Zdx,Zdy,Zdz,Zd0,Zd1,Zd2,Zd3,Zd4,Zd5,Zd6,Zd7,Zd8,Zd9,Zea,Zeb,Zec,Zbu,Zed,Zee,Zef,Zeg,Zeh,Zei,Zej,Zek,Zel,Zem,Zen,Zeo,Zep,Zeq,Zer,Zes,Zet,Zeu,Zev,Zew,Zex,Zey,Zez,Ze0,Ze1,Ze2,Ze3,Ze4,Ze5,Ze6,Ze7,Ze8,Ze9,Zfa,Zfb,Zfc,Zfd,Zfe,Zff,Zfg,Zfh,Zfi,Zfj,Zfk,Zfl,Zfm,Zfn,Zfo,Zfp,Zfq,Zfr,Zfs,Zft,Zfu,Zfv,Zfw,Zfx,Zfy,Zfz,Zf0,Zf1,Zf2,Zf3,Zf4,Zf5,Zf6,Zf7,Zf8,Zf9,Zga,Zgb,Zgc,Zgd,Zge,Zgf,Zgg,Zgh,Zgi,Zgj,Zgk,Zgl,Zgm,Zgn,Zgo,Zgp,Zgq,Zgr,Zgs,Zgt,Zgu,Zgv,Zgw,Zgx,Zgy,Zgz,Zg0,Zg1,Zg2,Zg3,Zg4,Zg5,Zg6,Zg7,Zg8,Zg9,Zha,Zhb,Zhc,Zhd,Zhe,Zhf,Zhg,Zhh,Zhi,Zhj,Zhk,Zhl,Zhm,Zhn,Zho,Zhp,Zhq,Zhr,Zhs,Zht,Zhu,Zhv,Zhw,Zhx,Zhy,Zhz,Zh0,Zh1,Zh2,Zh3,Zbv,Zh4,Zbw,Zh5,Zh6,Zbz,Zb0,Nat.reduceBEq,reduceIte,Nat.reduceEqDiff,Nat.reduceAdd,Nat.reduceMul,Nat.reduceSub,Nat.reduceLT,Nat.reduceLeDiff,reduceCtorEq,eq_self,ne_eq,ge_iff_le,gt_iff_lt,ite_self,implies_true,Int.reduceToNat,Int.reduceNeg,Zk,h1, Wm.cells_def, zeroW, List.length_append]

end Go.AM
