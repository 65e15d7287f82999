/- A part of the proof: W1. -/
import Derived.Test.YtfaceobahodhmaaMf1
import Derived.Test.YtfaceobahodhmaaAm19
set_option maxHeartbeats 4000000
set_option maxRecDepth 100000
namespace Go.AM
set_option linter.unusedVariables false
set_option linter.unusedSimpArgs false
variable {M : Prog}

theorem l1In_pu (hm : M n_spec_l1In = some m_spec_l1In) (a b c : Int) : Pu M n_spec_l1In [.int .i64 a, .int .i64 b, .int .i64 c] (.bool (decide (b ≤ a) && decide (a ≤ c))) := by
  refine Pu.mk fun h => Wa_of hm ?_
  simp(config:={contextual:=true,maxSteps:=2000000,implicitDefEqProofs:=false})(disch:=first|omega|(simp only[Ze8,Ze7,List.length_map,List.length_set,List.length_append,List.length_cons,List.length_nil];first|done|omega))only[↓Zaa,↓Zab,↓Zac,↓Zad,↓Zae,↓Zaf,↓Zag,↓Zah,↓Zai,↓Zaj,↓Zak,↓Zal,↓Zam,↓Zan,↓Zao,↓Zap,↓Zaq,↓Zar,↓Zas,↓Zat,↓Zau,↓Zav,↓Zaw,↓Zax,↓Zay,↓Zaz,↓Za0,↓Za1,↓Za2,↓Za3,↓Za4,↓Za5,↓Za6,↓Za7,↓Za8,↓Za9,↓Zba,↓Zbb,↓Zbc,↓Zbd,↓Zbe,↓Zbf,↓Zbg,↓Zbh,↓Zbi,↓Zbj,↓Zbk,↓Zbl,↓Zbm,↓Zbn,↓Zbo,↓Zbp,↓Zbq,↓Zbr,↓Zbs,↓Zbt,↓Zbu,↓Zbv,↓Zbw,↓Zbx,↓Zby,↓Zbz,↓Zb0,↓reduceIte,Zb1,Zb2,Zb3,Zb4,Zb5,Zb6,Zb7,Zb8,Zbx,Zb9,Zby,Zca,Zcb,Zcc,Zcd,Zce,Zcf,Zcg,Zch,Zci,Zcj,Zck,Zcl,Zcm,Zcn,Zco,Zcp,Zcq,Zcr,Zcs,Zct,Zcu,Zcv,Zcw,Zcx,Zcy,Zcz,Zc0,Zc1,Zc2,Zc3,Zc4,Zc5,Zc6,Zc7,Zc8,Zc9,Zda,Zdb,Zdc,Zdd,Zde,Zdf,Zdg,Zdh,Zdi,Zdj,Zdk,Zdl,Zdm,Zdn,Zdo,Zdp,Zdq,Zdr,Zds,Zdt,Zdu,Zdv,Zdw,Zdx,Zdy,Zdz,Zd0,Zd1,Zd2,Zd3,Zd4,Zd5,Zd6,Zd7,Zd8,Zd9,Zea,Zeb,Zec,Zbu,Zed,Zee,Zef,Zeg,Zeh,Zei,Zej,Zek,Zel,Zem,Zen,Zeo,Zep,Zeq,Zer,Zes,Zet,Zeu,Zev,Zew,Zex,Zey,Zez,Ze0,Ze1,Ze2,Ze3,Ze4,Ze5,Ze6,Ze7,Ze8,Ze9,Zfa,Zfb,Zfc,Zfd,Zfe,Zff,Zfg,Zfh,Zfi,Zfj,Zfk,Zfl,Zfm,Zfn,Zfo,Zfp,Zfq,Zfr,Zfs,Zft,Zfu,Zfv,Zfw,Zfx,Zfy,Zfz,Zf0,Zf1,Zf2,Zf3,Zf4,Zf5,Zf6,Zf7,Zf8,Zf9,Zga,Zgb,Zgc,Zgd,Zge,Zgf,Zgg,Zgh,Zgi,Zgj,Zgk,Zgl,Zgm,Zgn,Zgo,Zgp,Zgq,Zgr,Zgs,Zgt,Zgu,Zgv,Zgw,Zgx,Zgy,Zgz,Zg0,Zg1,Zg2,Zg3,Zg4,Zg5,Zg6,Zg7,Zg8,Zg9,Zha,Zhb,Zhc,Zhd,Zhe,Zhf,Zhg,Zhh,Zhi,Zhj,Zhk,Zhl,Zhm,Zhn,Zho,Zhp,Zhq,Zhr,Zhs,Zht,Zhu,Zhv,Zhw,Zhx,Zhy,Zhz,Zh0,Zh1,Zh2,Zh3,Zbv,Zh4,Zbw,Zh5,Zh6,Zbz,Zb0,Nat.reduceBEq,reduceIte,Nat.reduceEqDiff,Nat.reduceAdd,Nat.reduceMul,Nat.reduceSub,Nat.reduceLT,Nat.reduceLeDiff,reduceCtorEq,eq_self,ne_eq,ge_iff_le,gt_iff_lt,ite_self,implies_true,Int.reduceToNat,Int.reduceNeg,Zk,m_spec_l1In]

theorem tmod_tmod {a b : Int} (h3 : 0 < b) : (a.tmod b + b) % b = a % b := by
  rw [Int.add_emod_right, Int.tmod_eq_emod]
  split
  · simp
  · rw [Int.sub_emod]
    have : (b.natAbs : Int) = b := by omega
    simp [this]

theorem l1Mod_pu (hm : M n_spec_l1Mod = some m_spec_l1Mod) (a b : Int) (h1 : -1000000 ≤ a) (h2 : a ≤ 1000000) (h3 : 0 < b) (h4 : b ≤ 1000000) : Pu M n_spec_l1Mod [.int .i64 a, .int .i64 b] (.int .i64 (a % b)) := by
  refine Pu.mk fun h => Wa_of hm ?_
  have h5 := Int.lt_tmod_of_pos a h3
  have h6 := Int.tmod_lt_of_pos a h3
  simp(config:={contextual:=true,maxSteps:=2000000,implicitDefEqProofs:=false})(disch:=first|omega|(simp only[Ze8,Ze7,List.length_map,List.length_set,List.length_append,List.length_cons,List.length_nil];first|done|omega))only[↓Zaa,↓Zab,↓Zac,↓Zad,↓Zae,↓Zaf,↓Zag,↓Zah,↓Zai,↓Zaj,↓Zak,↓Zal,↓Zam,↓Zan,↓Zao,↓Zap,↓Zaq,↓Zar,↓Zas,↓Zat,↓Zau,↓Zav,↓Zaw,↓Zax,↓Zay,↓Zaz,↓Za0,↓Za1,↓Za2,↓Za3,↓Za4,↓Za5,↓Za6,↓Za7,↓Za8,↓Za9,↓Zba,↓Zbb,↓Zbc,↓Zbd,↓Zbe,↓Zbf,↓Zbg,↓Zbh,↓Zbi,↓Zbj,↓Zbk,↓Zbl,↓Zbm,↓Zbn,↓Zbo,↓Zbp,↓Zbq,↓Zbr,↓Zbs,↓Zbt,↓Zbu,↓Zbv,↓Zbw,↓Zbx,↓Zby,↓Zbz,↓Zb0,↓reduceIte,Zb1,Zb2,Zb3,Zb4,Zb5,Zb6,Zb7,Zb8,Zbx,Zb9,Zby,Zca,Zcb,Zcc,Zcd,Zce,Zcf,Zcg,Zch,Zci,Zcj,Zck,Zcl,Zcm,Zcn,Zco,Zcp,Zcq,Zcr,Zcs,Zct,Zcu,Zcv,Zcw,Zcx,Zcy,Zcz,Zc0,Zc1,Zc2,Zc3,Zc4,Zc5,Zc6,Zc7,Zc8,Zc9,Zda,Zdb,Zdc,Zdd,Zde,Zdf,Zdg,Zdh,Zdi,Zdj,Zdk,Zdl,Zdm,Zdn,Zdo,Zdp,Zdq,Zdr,Zds,Zdt,Zdu,Zdv,Zdw,Zdx,Zdy,Zdz,Zd0,Zd1,Zd2,Zd3,Zd4,Zd5,Zd6,Zd7,Zd8,Zd9,Zea,Zeb,Zec,Zbu,Zed,Zee,Zef,Zeg,Zeh,Zei,Zej,Zek,Zel,Zem,Zen,Zeo,Zep,Zeq,Zer,Zes,Zet,Zeu,Zev,Zew,Zex,Zey,Zez,Ze0,Ze1,Ze2,Ze3,Ze4,Ze5,Ze6,Ze7,Ze8,Ze9,Zfa,Zfb,Zfc,Zfd,Zfe,Zff,Zfg,Zfh,Zfi,Zfj,Zfk,Zfl,Zfm,Zfn,Zfo,Zfp,Zfq,Zfr,Zfs,Zft,Zfu,Zfv,Zfw,Zfx,Zfy,Zfz,Zf0,Zf1,Zf2,Zf3,Zf4,Zf5,Zf6,Zf7,Zf8,Zf9,Zga,Zgb,Zgc,Zgd,Zge,Zgf,Zgg,Zgh,Zgi,Zgj,Zgk,Zgl,Zgm,Zgn,Zgo,Zgp,Zgq,Zgr,Zgs,Zgt,Zgu,Zgv,Zgw,Zgx,Zgy,Zgz,Zg0,Zg1,Zg2,Zg3,Zg4,Zg5,Zg6,Zg7,Zg8,Zg9,Zha,Zhb,Zhc,Zhd,Zhe,Zhf,Zhg,Zhh,Zhi,Zhj,Zhk,Zhl,Zhm,Zhn,Zho,Zhp,Zhq,Zhr,Zhs,Zht,Zhu,Zhv,Zhw,Zhx,Zhy,Zhz,Zh0,Zh1,Zh2,Zh3,Zbv,Zh4,Zbw,Zh5,Zh6,Zbz,Zb0,Nat.reduceBEq,reduceIte,Nat.reduceEqDiff,Nat.reduceAdd,Nat.reduceMul,Nat.reduceSub,Nat.reduceLT,Nat.reduceLeDiff,reduceCtorEq,eq_self,ne_eq,ge_iff_le,gt_iff_lt,ite_self,implies_true,Int.reduceToNat,Int.reduceNeg,Zk,m_spec_l1Mod, tmod_tmod]

structure Wm where
  W : Int
  H : Int
  R : List UInt8
  D : List UInt8
  X : Int
  Y : Int
  Way : Int

def Wm.v (w : Wm) : Value := .agg ⟨[.int .i64 w.W, .int .i64 w.H, .string (str w.R), .string (str w.D), .int .i64 w.X, .int .i64 w.Y, .int .i64 w.Way]⟩
theorem Wm.v_def {w : Wm} : w.v = .agg ⟨[.int .i64 w.W, .int .i64 w.H, .string (str w.R), .string (str w.D), .int .i64 w.X, .int .i64 w.Y, .int .i64 w.Way]⟩ := congrArg (fun x => x) rfl

structure Wm.Grid (w : Wm) : Prop where
  w1 : 3 ≤ w.W
  w2 : w.W ≤ 6
  h1 : 3 ≤ w.H
  h2 : w.H ≤ 6
  r : (w.R.length : Int) = w.W * w.H
  d : (w.D.length : Int) = w.W * w.H

theorem cell_lt {x y W H : Int} (h1 : 0 ≤ x) (h2 : x < W) (h3 : 0 ≤ y) (h4 : y < H) (hW : W ≤ 6) (hH : H ≤ 6) : 0 ≤ y * W ∧ 0 ≤ y * W + x ∧ y * W + x < W * H ∧ y * W ≤ 30 ∧ W * H ≤ 36 := by
  have a1 : 0 ≤ y * W := Int.mul_nonneg h3 (by omega)
  have a2 : (y + 1) * W ≤ H * W := Int.mul_le_mul_of_nonneg_right (by omega) (by omega)
  have a3 : y * W ≤ 5 * W := Int.mul_le_mul_of_nonneg_right (by omega) (by omega)
  have a4 : H * W ≤ 6 * W := Int.mul_le_mul_of_nonneg_right (by omega) (by omega)
  have a5 : (y + 1) * W = y * W + W := by rw [Int.add_mul, Int.one_mul]
  have a6 : H * W = W * H := Int.mul_comm _ _
  omega

def lineAt (w : Wm) (x y way : Int) : Int :=
  if way = 0 then ((y - 1) % w.H) * w.W + x else if way = 1 then y * w.W + x else if way = 2 then y * w.W + x else y * w.W + (x - 1) % w.W
def isDown (way : Int) : Bool := decide (way = 0) || decide (way = 2)

theorem wmLine_pu (hm : M n_spec_wmLine = some m_spec_wmLine) (hm2 : M n_spec_l1Mod = some m_spec_l1Mod) (w : Wm) (g : w.Grid) (x y way : Int) (h5 : 0 ≤ x) (h6 : x < w.W) (h7 : 0 ≤ y) (h8 : y < w.H) :
   Pu M n_spec_wmLine [w.v, .int .i64 x, .int .i64 y, .int .i64 way] (.tuple #[.bool (isDown way), .int .i64 (lineAt w x y way)]) := by
  refine Pu.mk fun h => Wa_of hm ?_
  obtain ⟨w1, w2, h1, h2, gr, gd⟩ := g
  have b1 := cell_lt h5 h6 h7 h8 w2 h2
  have b2 := cell_lt h5 h6 (Int.emod_nonneg (y - 1) (by omega : w.H ≠ 0)) (Int.emod_lt_of_pos (y - 1) (by omega)) w2 h2
  have b3 := cell_lt (Int.emod_nonneg (x - 1) (by omega : w.W ≠ 0)) (Int.emod_lt_of_pos (x - 1) (by omega)) h7 h8 w2 h2
  simp(config:={contextual:=true,maxSteps:=2000000,implicitDefEqProofs:=false})(disch:=first|omega|(simp only[Ze8,Ze7,List.length_map,List.length_set,List.length_append,List.length_cons,List.length_nil];first|done|omega))only[↓Zaa,↓Zab,↓Zac,↓Zad,↓Zae,↓Zaf,↓Zag,↓Zah,↓Zai,↓Zaj,↓Zak,↓Zal,↓Zam,↓Zan,↓Zao,↓Zap,↓Zaq,↓Zar,↓Zas,↓Zat,↓Zau,↓Zav,↓Zaw,↓Zax,↓Zay,↓Zaz,↓Za0,↓Za1,↓Za2,↓Za3,↓Za4,↓Za5,↓Za6,↓Za7,↓Za8,↓Za9,↓Zba,↓Zbb,↓Zbc,↓Zbd,↓Zbe,↓Zbf,↓Zbg,↓Zbh,↓Zbi,↓Zbj,↓Zbk,↓Zbl,↓Zbm,↓Zbn,↓Zbo,↓Zbp,↓Zbq,↓Zbr,↓Zbs,↓Zbt,↓Zbu,↓Zbv,↓Zbw,↓Zbx,↓Zby,↓Zbz,↓Zb0,↓reduceIte,Zb1,Zb2,Zb3,Zb4,Zb5,Zb6,Zb7,Zb8,Zbx,Zb9,Zby,Zca,Zcb,Zcc,Zcd,Zce,Zcf,Zcg,Zch,Zci,Zcj,Zck,Zcl,Zcm,Zcn,Zco,Zcp,Zcq,Zcr,Zcs,Zct,Zcu,Zcv,Zcw,Zcx,Zcy,Zcz,Zc0,Zc1,Zc2,Zc3,Zc4,Zc5,Zc6,Zc7,Zc8,Zc9,Zda,Zdb,Zdc,Zdd,Zde,Zdf,Zdg,Zdh,Zdi,Zdj,Zdk,Zdl,Zdm,Zdn,Zdo,Zdp,Zdq,Zdr,Zds,Zdt,Zdu,Zdv,Zdw,Zdx,Zdy,Zdz,Zd0,Zd1,Zd2,Zd3,Zd4,Zd5,Zd6,Zd7,Zd8,Zd9,Zea,Zeb,Zec,Zbu,Zed,Zee,Zef,Zeg,Zeh,Zei,Zej,Zek,Zel,Zem,Zen,Zeo,Zep,Zeq,Zer,Zes,Zet,Zeu,Zev,Zew,Zex,Zey,Zez,Ze0,Ze1,Ze2,Ze3,Ze4,Ze5,Ze6,Ze7,Ze8,Ze9,Zfa,Zfb,Zfc,Zfd,Zfe,Zff,Zfg,Zfh,Zfi,Zfj,Zfk,Zfl,Zfm,Zfn,Zfo,Zfp,Zfq,Zfr,Zfs,Zft,Zfu,Zfv,Zfw,Zfx,Zfy,Zfz,Zf0,Zf1,Zf2,Zf3,Zf4,Zf5,Zf6,Zf7,Zf8,Zf9,Zga,Zgb,Zgc,Zgd,Zge,Zgf,Zgg,Zgh,Zgi,Zgj,Zgk,Zgl,Zgm,Zgn,Zgo,Zgp,Zgq,Zgr,Zgs,Zgt,Zgu,Zgv,Zgw,Zgx,Zgy,Zgz,Zg0,Zg1,Zg2,Zg3,Zg4,Zg5,Zg6,Zg7,Zg8,Zg9,Zha,Zhb,Zhc,Zhd,Zhe,Zhf,Zhg,Zhh,Zhi,Zhj,Zhk,Zhl,Zhm,Zhn,Zho,Zhp,Zhq,Zhr,Zhs,Zht,Zhu,Zhv,Zhw,Zhx,Zhy,Zhz,Zh0,Zh1,Zh2,Zh3,Zbv,Zh4,Zbw,Zh5,Zh6,Zbz,Zb0,Nat.reduceBEq,reduceIte,Nat.reduceEqDiff,Nat.reduceAdd,Nat.reduceMul,Nat.reduceSub,Nat.reduceLT,Nat.reduceLeDiff,reduceCtorEq,eq_self,ne_eq,ge_iff_le,gt_iff_lt,ite_self,implies_true,Int.reduceToNat,Int.reduceNeg,Zk,m_spec_wmLine, Wm.v_def, (l1Mod_pu hm2 _ _ _ _ _ _).wa, lineAt, isDown]

theorem lineAt_range (w : Wm) (g : w.Grid) {x y : Int} (way : Int) (h5 : 0 ≤ x) (h6 : x < w.W) (h7 : 0 ≤ y) (h8 : y < w.H) : 0 ≤ lineAt w x y way ∧ lineAt w x y way < w.W * w.H := by
  obtain ⟨w1, w2, h1, h2, gr, gd⟩ := g
  have b1 := cell_lt h5 h6 h7 h8 w2 h2
  have b2 := cell_lt h5 h6 (Int.emod_nonneg (y - 1) (by omega : w.H ≠ 0)) (Int.emod_lt_of_pos (y - 1) (by omega)) w2 h2
  have b3 := cell_lt (Int.emod_nonneg (x - 1) (by omega : w.W ≠ 0)) (Int.emod_lt_of_pos (x - 1) (by omega)) h7 h8 w2 h2
  unfold lineAt
  split
  · omega
  · split
    · omega
    · split <;> omega

def has (w : Wm) (x y way : Int) : Bool :=
  if isDown way then decide (w.D.getD (lineAt w x y way).toNat 0 = 49) else decide (w.R.getD (lineAt w x y way).toNat 0 = 49)

theorem wmHas_pu (hm : M n_spec_wmHas = some m_spec_wmHas) (hm1 : M n_spec_wmLine = some m_spec_wmLine) (hm2 : M n_spec_l1Mod = some m_spec_l1Mod) (w : Wm) (g : w.Grid) (x y way : Int) (h5 : 0 ≤ x) (h6 : x < w.W) (h7 : 0 ≤ y) (h8 : y < w.H) :
   Pu M n_spec_wmHas [w.v, .int .i64 x, .int .i64 y, .int .i64 way] (.bool (has w x y way)) := by
  refine Pu.mk fun h => Wa_of hm ?_
  have hl := lineAt_range w g way h5 h6 h7 h8
  have gr := g.r
  have gd := g.d
  have hc := wmLine_pu hm1 hm2 w g x y way h5 h6 h7 h8
  simp only [Wm.v_def] at hc
  simp(config:={contextual:=true,maxSteps:=2000000,implicitDefEqProofs:=false})(disch:=first|omega|(simp only[Ze8,Ze7,List.length_map,List.length_set,List.length_append,List.length_cons,List.length_nil];first|done|omega))only[↓Zaa,↓Zab,↓Zac,↓Zad,↓Zae,↓Zaf,↓Zag,↓Zah,↓Zai,↓Zaj,↓Zak,↓Zal,↓Zam,↓Zan,↓Zao,↓Zap,↓Zaq,↓Zar,↓Zas,↓Zat,↓Zau,↓Zav,↓Zaw,↓Zax,↓Zay,↓Zaz,↓Za0,↓Za1,↓Za2,↓Za3,↓Za4,↓Za5,↓Za6,↓Za7,↓Za8,↓Za9,↓Zba,↓Zbb,↓Zbc,↓Zbd,↓Zbe,↓Zbf,↓Zbg,↓Zbh,↓Zbi,↓Zbj,↓Zbk,↓Zbl,↓Zbm,↓Zbn,↓Zbo,↓Zbp,↓Zbq,↓Zbr,↓Zbs,↓Zbt,↓Zbu,↓Zbv,↓Zbw,↓Zbx,↓Zby,↓Zbz,↓Zb0,↓reduceIte,Zb1,Zb2,Zb3,Zb4,Zb5,Zb6,Zb7,Zb8,Zbx,Zb9,Zby,Zca,Zcb,Zcc,Zcd,Zce,Zcf,Zcg,Zch,Zci,Zcj,Zck,Zcl,Zcm,Zcn,Zco,Zcp,Zcq,Zcr,Zcs,Zct,Zcu,Zcv,Zcw,Zcx,Zcy,Zcz,Zc0,Zc1,Zc2,Zc3,Zc4,Zc5,Zc6,Zc7,Zc8,Zc9,Zda,Zdb,Zdc,Zdd,Zde,Zdf,Zdg,Zdh,Zdi,Zdj,Zdk,Zdl,Zdm,Zdn,Zdo,Zdp,Zdq,Zdr,Zds,Zdt,Zdu,Zdv,Zdw,Zdx,Zdy,Zdz,Zd0,Zd1,Zd2,Zd3,Zd4,Zd5,Zd6,Zd7,Zd8,Zd9,Zea,Zeb,Zec,Zbu,Zed,Zee,Zef,Zeg,Zeh,Zei,Zej,Zek,Zel,Zem,Zen,Zeo,Zep,Zeq,Zer,Zes,Zet,Zeu,Zev,Zew,Zex,Zey,Zez,Ze0,Ze1,Ze2,Ze3,Ze4,Ze5,Ze6,Ze7,Ze8,Ze9,Zfa,Zfb,Zfc,Zfd,Zfe,Zff,Zfg,Zfh,Zfi,Zfj,Zfk,Zfl,Zfm,Zfn,Zfo,Zfp,Zfq,Zfr,Zfs,Zft,Zfu,Zfv,Zfw,Zfx,Zfy,Zfz,Zf0,Zf1,Zf2,Zf3,Zf4,Zf5,Zf6,Zf7,Zf8,Zf9,Zga,Zgb,Zgc,Zgd,Zge,Zgf,Zgg,Zgh,Zgi,Zgj,Zgk,Zgl,Zgm,Zgn,Zgo,Zgp,Zgq,Zgr,Zgs,Zgt,Zgu,Zgv,Zgw,Zgx,Zgy,Zgz,Zg0,Zg1,Zg2,Zg3,Zg4,Zg5,Zg6,Zg7,Zg8,Zg9,Zha,Zhb,Zhc,Zhd,Zhe,Zhf,Zhg,Zhh,Zhi,Zhj,Zhk,Zhl,Zhm,Zhn,Zho,Zhp,Zhq,Zhr,Zhs,Zht,Zhu,Zhv,Zhw,Zhx,Zhy,Zhz,Zh0,Zh1,Zh2,Zh3,Zbv,Zh4,Zbw,Zh5,Zh6,Zbz,Zb0,Nat.reduceBEq,reduceIte,Nat.reduceEqDiff,Nat.reduceAdd,Nat.reduceMul,Nat.reduceSub,Nat.reduceLT,Nat.reduceLeDiff,reduceCtorEq,eq_self,ne_eq,ge_iff_le,gt_iff_lt,ite_self,implies_true,Int.reduceToNat,Int.reduceNeg,Zk,m_spec_wmHas, Wm.v_def, hc.wa, has]

def zo (c : UInt8) : Prop := c = 48 ∨ c = 49

def Zos (l : List UInt8) : Prop := ∀ (i : Nat), i < l.length → zo (l.getD i 0)

structure Wm.Good (w : Wm) : Prop where
  g : w.Grid
  r : Zos w.R
  d : Zos w.D
  x1 : 0 ≤ w.X
  x2 : w.X < w.W
  y1 : 0 ≤ w.Y
  y2 : w.Y < w.H
  a1 : 0 ≤ w.Way
  a2 : w.Way ≤ 3

open Classical in
noncomputable def Wm.good (w : Wm) : Bool := decide w.Good

theorem Wm.good_f {w : Wm} (h : ¬ w.Good) : w.good = false := by simp [Wm.good, h]
theorem Wm.good_t {w : Wm} (h : w.Good) : w.good = true := by simp [Wm.good, h]

structure Wm.Rng (w : Wm) : Prop where
  r : w.R.length ≤ 1000000
  d : w.D.length ≤ 1000000

def wmGoodI (w : Wm) (h : Heap) (n : Nat) (t : Tm) (hh : Heap) (l : Nat) : Prop :=
  ∃ i : Nat, i ≤ w.R.length ∧ n = w.R.length - i ∧ hh = h ++ [.cells [.int .i64 w.W, .int .i64 w.H, .string (str w.R), .string (str w.D), .int .i64 w.X, .int .i64 w.Y, .int .i64 w.Way] none true] ∧ l = h.length ∧
    gt t 1 = some (.pointer (some ⟨h.length, 0, none⟩)) ∧ gt t 2 = some (.bool false) ∧ gt t 3 = some (.int .i64 i) ∧ ∀ j, j < i → zo (w.R.getD j 0) ∧ zo (w.D.getD j 0)

theorem wmGood_tail {w : Wm} (w1 : 3 ≤ w.W) (w2 : w.W ≤ 6) (g1 : 3 ≤ w.H) (g2 : w.H ≤ 6) (e1 : (w.R.length : Int) = w.W * w.H) (e2 : w.D.length = w.R.length)
    (hz : ∀ j, j < w.R.length → zo (w.R.getD j 0) ∧ zo (w.D.getD j 0)) : w.good = decide ((0 ≤ w.X ∧ w.X ≤ w.W - 1) ∧ (0 ≤ w.Y ∧ w.Y ≤ w.H - 1) ∧ 0 ≤ w.Way ∧ w.Way ≤ 3) := by
  by_cases hg : w.Good
  · rw [Wm.good_t hg]
    have := hg.x1; have := hg.x2; have := hg.y1; have := hg.y2; have := hg.a1; have := hg.a2
    symm
    rw [decide_eq_true_eq]
    omega
  · rw [Wm.good_f hg]
    symm
    refine decide_eq_false fun hc => hg ?_
    exact ⟨⟨w1, w2, g1, g2, e1, by omega⟩, fun i h => (hz i h).1, fun i h => (hz i (by omega)).2, by omega, by omega, by omega, by omega, by omega, by omega⟩

set_option maxHeartbeats 1000000 in
theorem wmGood_pu (hm : M n_spec_wmGood = some m_spec_wmGood) (hm1 : M n_spec_l1In = some m_spec_l1In) (w : Wm) (hr : w.Rng) : Pu M n_spec_wmGood [w.v] (.bool w.good) := by
  refine Pu.mk fun h => Wa_of hm ?_
  have hr1 := hr.r
  have hr2 := hr.d
  have hc : w.W < 3 ∨ 6 < w.W ∨ (3 ≤ w.W ∧ w.W ≤ 6 ∧ (w.H < 3 ∨ 6 < w.H ∨ (3 ≤ w.H ∧ w.H ≤ 6))) := by omega
  rcases hc with h1 | h1 | ⟨w1, w2, g | g | ⟨g1, g2⟩⟩
  any_goals
    have bad : w.good = false := Wm.good_f fun hg => by have := hg.g.w1; have := hg.g.w2; have := hg.g.h1; have := hg.g.h2; omega
    simp(config:={contextual:=true,maxSteps:=2000000,implicitDefEqProofs:=false})(disch:=first|omega|(simp only[Ze8,Ze7,List.length_map,List.length_set,List.length_append,List.length_cons,List.length_nil];first|done|omega))only[↓Zaa,↓Zab,↓Zac,↓Zad,↓Zae,↓Zaf,↓Zag,↓Zah,↓Zai,↓Zaj,↓Zak,↓Zal,↓Zam,↓Zan,↓Zao,↓Zap,↓Zaq,↓Zar,↓Zas,↓Zat,↓Zau,↓Zav,↓Zaw,↓Zax,↓Zay,↓Zaz,↓Za0,↓Za1,↓Za2,↓Za3,↓Za4,↓Za5,↓Za6,↓Za7,↓Za8,↓Za9,↓Zba,↓Zbb,↓Zbc,↓Zbd,↓Zbe,↓Zbf,↓Zbg,↓Zbh,↓Zbi,↓Zbj,↓Zbk,↓Zbl,↓Zbm,↓Zbn,↓Zbo,↓Zbp,↓Zbq,↓Zbr,↓Zbs,↓Zbt,↓Zbu,↓Zbv,↓Zbw,↓Zbx,↓Zby,↓Zbz,↓Zb0,↓reduceIte,Zb1,Zb2,Zb3,Zb4,Zb5,Zb6,Zb7,Zb8,Zbx,Zb9,Zby,Zca,Zcb,Zcc,Zcd,Zce,Zcf,Zcg,Zch,Zci,Zcj,Zck,Zcl,Zcm,Zcn,Zco,Zcp,Zcq,Zcr,Zcs,Zct,Zcu,Zcv,Zcw,Zcx,Zcy,Zcz,Zc0,Zc1,Zc2,Zc3,Zc4,Zc5,Zc6,Zc7,Zc8,Zc9,Zda,Zdb,Zdc,Zdd,Zde,Zdf,Zdg,Zdh,Zdi,Zdj,Zdk,Zdl,Zdm,Zdn,Zdo,Zdp,Zdq,Zdr,Zds,Zdt,Zdu,Zdv,Zdw,Zdx,Zdy,Zdz,Zd0,Zd1,Zd2,Zd3,Zd4,Zd5,Zd6,Zd7,Zd8,Zd9,Zea,Zeb,Zec,Zbu,Zed,Zee,Zef,Zeg,Zeh,Zei,Zej,Zek,Zel,Zem,Zen,Zeo,Zep,Zeq,Zer,Zes,Zet,Zeu,Zev,Zew,Zex,Zey,Zez,Ze0,Ze1,Ze2,Ze3,Ze4,Ze5,Ze6,Ze7,Ze8,Ze9,Zfa,Zfb,Zfc,Zfd,Zfe,Zff,Zfg,Zfh,Zfi,Zfj,Zfk,Zfl,Zfm,Zfn,Zfo,Zfp,Zfq,Zfr,Zfs,Zft,Zfu,Zfv,Zfw,Zfx,Zfy,Zfz,Zf0,Zf1,Zf2,Zf3,Zf4,Zf5,Zf6,Zf7,Zf8,Zf9,Zga,Zgb,Zgc,Zgd,Zge,Zgf,Zgg,Zgh,Zgi,Zgj,Zgk,Zgl,Zgm,Zgn,Zgo,Zgp,Zgq,Zgr,Zgs,Zgt,Zgu,Zgv,Zgw,Zgx,Zgy,Zgz,Zg0,Zg1,Zg2,Zg3,Zg4,Zg5,Zg6,Zg7,Zg8,Zg9,Zha,Zhb,Zhc,Zhd,Zhe,Zhf,Zhg,Zhh,Zhi,Zhj,Zhk,Zhl,Zhm,Zhn,Zho,Zhp,Zhq,Zhr,Zhs,Zht,Zhu,Zhv,Zhw,Zhx,Zhy,Zhz,Zh0,Zh1,Zh2,Zh3,Zbv,Zh4,Zbw,Zh5,Zh6,Zbz,Zb0,Nat.reduceBEq,reduceIte,Nat.reduceEqDiff,Nat.reduceAdd,Nat.reduceMul,Nat.reduceSub,Nat.reduceLT,Nat.reduceLeDiff,reduceCtorEq,eq_self,ne_eq,ge_iff_le,gt_iff_lt,ite_self,implies_true,Int.reduceToNat,Int.reduceNeg,Zk,m_spec_wmGood, Wm.v_def, (l1In_pu hm1 _ _ _).wa, bad]
    done
  have b : 9 ≤ w.W * w.H ∧ w.W * w.H ≤ 36 := by
    have a1 : 3 * w.H ≤ w.W * w.H := Int.mul_le_mul_of_nonneg_right (by omega) (by omega)
    have a2 : w.W * w.H ≤ 6 * w.H := Int.mul_le_mul_of_nonneg_right (by omega) (by omega)
    omega
  by_cases e1 : (w.R.length : Int) = w.W * w.H
  case neg =>
    have bad : w.good = false := Wm.good_f fun hg => e1 hg.g.r
    simp(config:={contextual:=true,maxSteps:=2000000,implicitDefEqProofs:=false})(disch:=first|omega|(simp only[Ze8,Ze7,List.length_map,List.length_set,List.length_append,List.length_cons,List.length_nil];first|done|omega))only[↓Zaa,↓Zab,↓Zac,↓Zad,↓Zae,↓Zaf,↓Zag,↓Zah,↓Zai,↓Zaj,↓Zak,↓Zal,↓Zam,↓Zan,↓Zao,↓Zap,↓Zaq,↓Zar,↓Zas,↓Zat,↓Zau,↓Zav,↓Zaw,↓Zax,↓Zay,↓Zaz,↓Za0,↓Za1,↓Za2,↓Za3,↓Za4,↓Za5,↓Za6,↓Za7,↓Za8,↓Za9,↓Zba,↓Zbb,↓Zbc,↓Zbd,↓Zbe,↓Zbf,↓Zbg,↓Zbh,↓Zbi,↓Zbj,↓Zbk,↓Zbl,↓Zbm,↓Zbn,↓Zbo,↓Zbp,↓Zbq,↓Zbr,↓Zbs,↓Zbt,↓Zbu,↓Zbv,↓Zbw,↓Zbx,↓Zby,↓Zbz,↓Zb0,↓reduceIte,Zb1,Zb2,Zb3,Zb4,Zb5,Zb6,Zb7,Zb8,Zbx,Zb9,Zby,Zca,Zcb,Zcc,Zcd,Zce,Zcf,Zcg,Zch,Zci,Zcj,Zck,Zcl,Zcm,Zcn,Zco,Zcp,Zcq,Zcr,Zcs,Zct,Zcu,Zcv,Zcw,Zcx,Zcy,Zcz,Zc0,Zc1,Zc2,Zc3,Zc4,Zc5,Zc6,Zc7,Zc8,Zc9,Zda,Zdb,Zdc,Zdd,Zde,Zdf,Zdg,Zdh,Zdi,Zdj,Zdk,Zdl,Zdm,Zdn,Zdo,Zdp,Zdq,Zdr,Zds,Zdt,Zdu,Zdv,Zdw,Zdx,Zdy,Zdz,Zd0,Zd1,Zd2,Zd3,Zd4,Zd5,Zd6,Zd7,Zd8,Zd9,Zea,Zeb,Zec,Zbu,Zed,Zee,Zef,Zeg,Zeh,Zei,Zej,Zek,Zel,Zem,Zen,Zeo,Zep,Zeq,Zer,Zes,Zet,Zeu,Zev,Zew,Zex,Zey,Zez,Ze0,Ze1,Ze2,Ze3,Ze4,Ze5,Ze6,Ze7,Ze8,Ze9,Zfa,Zfb,Zfc,Zfd,Zfe,Zff,Zfg,Zfh,Zfi,Zfj,Zfk,Zfl,Zfm,Zfn,Zfo,Zfp,Zfq,Zfr,Zfs,Zft,Zfu,Zfv,Zfw,Zfx,Zfy,Zfz,Zf0,Zf1,Zf2,Zf3,Zf4,Zf5,Zf6,Zf7,Zf8,Zf9,Zga,Zgb,Zgc,Zgd,Zge,Zgf,Zgg,Zgh,Zgi,Zgj,Zgk,Zgl,Zgm,Zgn,Zgo,Zgp,Zgq,Zgr,Zgs,Zgt,Zgu,Zgv,Zgw,Zgx,Zgy,Zgz,Zg0,Zg1,Zg2,Zg3,Zg4,Zg5,Zg6,Zg7,Zg8,Zg9,Zha,Zhb,Zhc,Zhd,Zhe,Zhf,Zhg,Zhh,Zhi,Zhj,Zhk,Zhl,Zhm,Zhn,Zho,Zhp,Zhq,Zhr,Zhs,Zht,Zhu,Zhv,Zhw,Zhx,Zhy,Zhz,Zh0,Zh1,Zh2,Zh3,Zbv,Zh4,Zbw,Zh5,Zh6,Zbz,Zb0,Nat.reduceBEq,reduceIte,Nat.reduceEqDiff,Nat.reduceAdd,Nat.reduceMul,Nat.reduceSub,Nat.reduceLT,Nat.reduceLeDiff,reduceCtorEq,eq_self,ne_eq,ge_iff_le,gt_iff_lt,ite_self,implies_true,Int.reduceToNat,Int.reduceNeg,Zk,m_spec_wmGood, Wm.v_def, (l1In_pu hm1 _ _ _).wa, bad]
  by_cases e2 : w.D.length = w.R.length
  case neg =>
    have bad : w.good = false := Wm.good_f fun hg => e2 (by have := hg.g.r; have := hg.g.d; omega)
    simp(config:={contextual:=true,maxSteps:=2000000,implicitDefEqProofs:=false})(disch:=first|omega|(simp only[Ze8,Ze7,List.length_map,List.length_set,List.length_append,List.length_cons,List.length_nil];first|done|omega))only[↓Zaa,↓Zab,↓Zac,↓Zad,↓Zae,↓Zaf,↓Zag,↓Zah,↓Zai,↓Zaj,↓Zak,↓Zal,↓Zam,↓Zan,↓Zao,↓Zap,↓Zaq,↓Zar,↓Zas,↓Zat,↓Zau,↓Zav,↓Zaw,↓Zax,↓Zay,↓Zaz,↓Za0,↓Za1,↓Za2,↓Za3,↓Za4,↓Za5,↓Za6,↓Za7,↓Za8,↓Za9,↓Zba,↓Zbb,↓Zbc,↓Zbd,↓Zbe,↓Zbf,↓Zbg,↓Zbh,↓Zbi,↓Zbj,↓Zbk,↓Zbl,↓Zbm,↓Zbn,↓Zbo,↓Zbp,↓Zbq,↓Zbr,↓Zbs,↓Zbt,↓Zbu,↓Zbv,↓Zbw,↓Zbx,↓Zby,↓Zbz,↓Zb0,↓reduceIte,Zb1,Zb2,Zb3,Zb4,Zb5,Zb6,Zb7,Zb8,Zbx,Zb9,Zby,Zca,Zcb,Zcc,Zcd,Zce,Zcf,Zcg,Zch,Zci,Zcj,Zck,Zcl,Zcm,Zcn,Zco,Zcp,Zcq,Zcr,Zcs,Zct,Zcu,Zcv,Zcw,Zcx,Zcy,Zcz,Zc0,Zc1,Zc2,Zc3,Zc4,Zc5,Zc6,Zc7,Zc8,Zc9,Zda,Zdb,Zdc,Zdd,Zde,Zdf,Zdg,Zdh,Zdi,Zdj,Zdk,Zdl,Zdm,Zdn,Zdo,Zdp,Zdq,Zdr,Zds,Zdt,Zdu,Zdv,Zdw,Zdx,Zdy,Zdz,Zd0,Zd1,Zd2,Zd3,Zd4,Zd5,Zd6,Zd7,Zd8,Zd9,Zea,Zeb,Zec,Zbu,Zed,Zee,Zef,Zeg,Zeh,Zei,Zej,Zek,Zel,Zem,Zen,Zeo,Zep,Zeq,Zer,Zes,Zet,Zeu,Zev,Zew,Zex,Zey,Zez,Ze0,Ze1,Ze2,Ze3,Ze4,Ze5,Ze6,Ze7,Ze8,Ze9,Zfa,Zfb,Zfc,Zfd,Zfe,Zff,Zfg,Zfh,Zfi,Zfj,Zfk,Zfl,Zfm,Zfn,Zfo,Zfp,Zfq,Zfr,Zfs,Zft,Zfu,Zfv,Zfw,Zfx,Zfy,Zfz,Zf0,Zf1,Zf2,Zf3,Zf4,Zf5,Zf6,Zf7,Zf8,Zf9,Zga,Zgb,Zgc,Zgd,Zge,Zgf,Zgg,Zgh,Zgi,Zgj,Zgk,Zgl,Zgm,Zgn,Zgo,Zgp,Zgq,Zgr,Zgs,Zgt,Zgu,Zgv,Zgw,Zgx,Zgy,Zgz,Zg0,Zg1,Zg2,Zg3,Zg4,Zg5,Zg6,Zg7,Zg8,Zg9,Zha,Zhb,Zhc,Zhd,Zhe,Zhf,Zhg,Zhh,Zhi,Zhj,Zhk,Zhl,Zhm,Zhn,Zho,Zhp,Zhq,Zhr,Zhs,Zht,Zhu,Zhv,Zhw,Zhx,Zhy,Zhz,Zh0,Zh1,Zh2,Zh3,Zbv,Zh4,Zbw,Zh5,Zh6,Zbz,Zb0,Nat.reduceBEq,reduceIte,Nat.reduceEqDiff,Nat.reduceAdd,Nat.reduceMul,Nat.reduceSub,Nat.reduceLT,Nat.reduceLeDiff,reduceCtorEq,eq_self,ne_eq,ge_iff_le,gt_iff_lt,ite_self,implies_true,Int.reduceToNat,Int.reduceNeg,Zk,m_spec_wmGood, Wm.v_def, (l1In_pu hm1 _ _ _).wa, bad]
  simp(config:={contextual:=true,maxSteps:=2000000,implicitDefEqProofs:=false})(disch:=first|omega|(simp only[Ze8,Ze7,List.length_map,List.length_set,List.length_append,List.length_cons,List.length_nil];first|done|omega))only[↓Zaa,↓Zab,↓Zac,↓Zad,↓Zae,↓Zaf,↓Zag,↓Zah,↓Zai,↓Zaj,↓Zak,↓Zal,↓Zam,↓Zan,↓Zao,↓Zap,↓Zaq,↓Zar,↓Zas,↓Zat,↓Zau,↓Zav,↓Zaw,↓Zax,↓Zay,↓Zaz,↓Za0,↓Za1,↓Za2,↓Za3,↓Za4,↓Za5,↓Za6,↓Za7,↓Za8,↓Za9,↓Zba,↓Zbb,↓Zbc,↓Zbd,↓Zbe,↓Zbf,↓Zbg,↓Zbh,↓Zbi,↓Zbj,↓Zbk,↓Zbl,↓Zbm,↓Zbn,↓Zbo,↓Zbp,↓Zbq,↓Zbr,↓Zbs,↓Zbt,↓Zbu,↓Zbv,↓Zbw,↓Zbx,↓Zby,↓Zbz,↓Zb0,↓reduceIte,Zb1,Zb2,Zb3,Zb4,Zb5,Zb6,Zb7,Zb8,Zbx,Zb9,Zby,Zca,Zcb,Zcc,Zcd,Zce,Zcf,Zcg,Zch,Zci,Zcj,Zck,Zcl,Zcm,Zcn,Zco,Zcp,Zcq,Zcr,Zcs,Zct,Zcu,Zcv,Zcw,Zcx,Zcy,Zcz,Zc0,Zc1,Zc2,Zc3,Zc4,Zc5,Zc6,Zc7,Zc8,Zc9,Zda,Zdb,Zdc,Zdd,Zde,Zdf,Zdg,Zdh,Zdi,Zdj,Zdk,Zdl,Zdm,Zdn,Zdo,Zdp,Zdq,Zdr,Zds,Zdt,Zdu,Zdv,Zdw,Zdx,Zdy,Zdz,Zd0,Zd1,Zd2,Zd3,Zd4,Zd5,Zd6,Zd7,Zd8,Zd9,Zea,Zeb,Zec,Zbu,Zed,Zee,Zef,Zeg,Zeh,Zei,Zej,Zek,Zel,Zem,Zen,Zeo,Zep,Zeq,Zer,Zes,Zet,Zeu,Zev,Zew,Zex,Zey,Zez,Ze0,Ze1,Ze2,Ze3,Ze4,Ze5,Ze6,Ze7,Ze8,Ze9,Zfa,Zfb,Zfc,Zfd,Zfe,Zff,Zfg,Zfh,Zfi,Zfj,Zfk,Zfl,Zfm,Zfn,Zfo,Zfp,Zfq,Zfr,Zfs,Zft,Zfu,Zfv,Zfw,Zfx,Zfy,Zfz,Zf0,Zf1,Zf2,Zf3,Zf4,Zf5,Zf6,Zf7,Zf8,Zf9,Zga,Zgb,Zgc,Zgd,Zge,Zgf,Zgg,Zgh,Zgi,Zgj,Zgk,Zgl,Zgm,Zgn,Zgo,Zgp,Zgq,Zgr,Zgs,Zgt,Zgu,Zgv,Zgw,Zgx,Zgy,Zgz,Zg0,Zg1,Zg2,Zg3,Zg4,Zg5,Zg6,Zg7,Zg8,Zg9,Zha,Zhb,Zhc,Zhd,Zhe,Zhf,Zhg,Zhh,Zhi,Zhj,Zhk,Zhl,Zhm,Zhn,Zho,Zhp,Zhq,Zhr,Zhs,Zht,Zhu,Zhv,Zhw,Zhx,Zhy,Zhz,Zh0,Zh1,Zh2,Zh3,Zbv,Zh4,Zbw,Zh5,Zh6,Zbz,Zb0,Nat.reduceBEq,reduceIte,Nat.reduceEqDiff,Nat.reduceAdd,Nat.reduceMul,Nat.reduceSub,Nat.reduceLT,Nat.reduceLeDiff,reduceCtorEq,eq_self,ne_eq,ge_iff_le,gt_iff_lt,ite_self,implies_true,Int.reduceToNat,Int.reduceNeg,Zk,m_spec_wmGood, Wm.v_def, (l1In_pu hm1 _ _ _).wa]
  refine Wc_loop (wmGoodI w h) w.R.length ?_ ?_
  · refine ⟨0, by omega, by omega, rfl, rfl, ?_⟩
    simp(config:={contextual:=true,maxSteps:=2000000,implicitDefEqProofs:=false})(disch:=first|omega|(simp only[Ze8,Ze7,List.length_map,List.length_set,List.length_append,List.length_cons,List.length_nil];first|done|omega))only[↓Zaa,↓Zab,↓Zac,↓Zad,↓Zae,↓Zaf,↓Zag,↓Zah,↓Zai,↓Zaj,↓Zak,↓Zal,↓Zam,↓Zan,↓Zao,↓Zap,↓Zaq,↓Zar,↓Zas,↓Zat,↓Zau,↓Zav,↓Zaw,↓Zax,↓Zay,↓Zaz,↓Za0,↓Za1,↓Za2,↓Za3,↓Za4,↓Za5,↓Za6,↓Za7,↓Za8,↓Za9,↓Zba,↓Zbb,↓Zbc,↓Zbd,↓Zbe,↓Zbf,↓Zbg,↓Zbh,↓Zbi,↓Zbj,↓Zbk,↓Zbl,↓Zbm,↓Zbn,↓Zbo,↓Zbp,↓Zbq,↓Zbr,↓Zbs,↓Zbt,↓Zbu,↓Zbv,↓Zbw,↓Zbx,↓Zby,↓Zbz,↓Zb0,↓reduceIte,Zb1,Zb2,Zb3,Zb4,Zb5,Zb6,Zb7,Zb8,Zbx,Zb9,Zby,Zca,Zcb,Zcc,Zcd,Zce,Zcf,Zcg,Zch,Zci,Zcj,Zck,Zcl,Zcm,Zcn,Zco,Zcp,Zcq,Zcr,Zcs,Zct,Zcu,Zcv,Zcw,Zcx,Zcy,Zcz,Zc0,Zc1,Zc2,Zc3,Zc4,Zc5,Zc6,Zc7,Zc8,Zc9,Zda,Zdb,Zdc,Zdd,Zde,Zdf,Zdg,Zdh,Zdi,Zdj,Zdk,Zdl,Zdm,Zdn,Zdo,Zdp,Zdq,Zdr,Zds,Zdt,Zdu,Zdv,Zdw,Zdx,Zdy,Zdz,Zd0,Zd1,Zd2,Zd3,Zd4,Zd5,Zd6,Zd7,Zd8,Zd9,Zea,Zeb,Zec,Zbu,Zed,Zee,Zef,Zeg,Zeh,Zei,Zej,Zek,Zel,Zem,Zen,Zeo,Zep,Zeq,Zer,Zes,Zet,Zeu,Zev,Zew,Zex,Zey,Zez,Ze0,Ze1,Ze2,Ze3,Ze4,Ze5,Ze6,Ze7,Ze8,Ze9,Zfa,Zfb,Zfc,Zfd,Zfe,Zff,Zfg,Zfh,Zfi,Zfj,Zfk,Zfl,Zfm,Zfn,Zfo,Zfp,Zfq,Zfr,Zfs,Zft,Zfu,Zfv,Zfw,Zfx,Zfy,Zfz,Zf0,Zf1,Zf2,Zf3,Zf4,Zf5,Zf6,Zf7,Zf8,Zf9,Zga,Zgb,Zgc,Zgd,Zge,Zgf,Zgg,Zgh,Zgi,Zgj,Zgk,Zgl,Zgm,Zgn,Zgo,Zgp,Zgq,Zgr,Zgs,Zgt,Zgu,Zgv,Zgw,Zgx,Zgy,Zgz,Zg0,Zg1,Zg2,Zg3,Zg4,Zg5,Zg6,Zg7,Zg8,Zg9,Zha,Zhb,Zhc,Zhd,Zhe,Zhf,Zhg,Zhh,Zhi,Zhj,Zhk,Zhl,Zhm,Zhn,Zho,Zhp,Zhq,Zhr,Zhs,Zht,Zhu,Zhv,Zhw,Zhx,Zhy,Zhz,Zh0,Zh1,Zh2,Zh3,Zbv,Zh4,Zbw,Zh5,Zh6,Zbz,Zb0,Nat.reduceBEq,reduceIte,Nat.reduceEqDiff,Nat.reduceAdd,Nat.reduceMul,Nat.reduceSub,Nat.reduceLT,Nat.reduceLeDiff,reduceCtorEq,eq_self,ne_eq,ge_iff_le,gt_iff_lt,ite_self,implies_true,Int.reduceToNat,Int.reduceNeg,Zk,]
    exact rfl
  · rintro n t hh l ⟨i, hi, rfl, rfl, rfl, t1, t2, t3, hz⟩
    by_cases hlt : i < w.R.length
    · have step : ∀ t', gt t' 1 = some (.pointer (some ⟨h.length, 0, none⟩)) → gt t' 2 = some (.bool false) → gt t' 3 = some (.int .i64 ((i : Int) + 1)) → zo (w.R.getD i 0) → zo (w.D.getD i 0) →
          @again ⟨wmGoodI w h⟩ (w.R.length - i) t' (h ++ [.cells [.int .i64 w.W, .int .i64 w.H, .string (str w.R), .string (str w.D), .int .i64 w.X, .int .i64 w.Y, .int .i64 w.Way] none true]) h.length := fun t' k1 k2 k3 z1 z2 =>
        again.mk (w.R.length - (i + 1)) (by omega) ⟨i + 1, by omega, rfl, rfl, rfl, k1, k2, k3, fun j hj => by
          by_cases e : j = i
          · subst e; exact ⟨z1, z2⟩
          · exact hz j (by omega)⟩
      have bad : ¬ (zo (w.R.getD i 0) ∧ zo (w.D.getD i 0)) → Value.bool false = Value.bool w.good := fun hb => by
        rw [Wm.good_f fun hg => hb ⟨hg.r i hlt, hg.d i (by omega)⟩]
      simp(config:={contextual:=true,maxSteps:=2000000,implicitDefEqProofs:=false})(disch:=first|omega|(simp only[Ze8,Ze7,List.length_map,List.length_set,List.length_append,List.length_cons,List.length_nil];first|done|omega))only[↓Zaa,↓Zab,↓Zac,↓Zad,↓Zae,↓Zaf,↓Zag,↓Zah,↓Zai,↓Zaj,↓Zak,↓Zal,↓Zam,↓Zan,↓Zao,↓Zap,↓Zaq,↓Zar,↓Zas,↓Zat,↓Zau,↓Zav,↓Zaw,↓Zax,↓Zay,↓Zaz,↓Za0,↓Za1,↓Za2,↓Za3,↓Za4,↓Za5,↓Za6,↓Za7,↓Za8,↓Za9,↓Zba,↓Zbb,↓Zbc,↓Zbd,↓Zbe,↓Zbf,↓Zbg,↓Zbh,↓Zbi,↓Zbj,↓Zbk,↓Zbl,↓Zbm,↓Zbn,↓Zbo,↓Zbp,↓Zbq,↓Zbr,↓Zbs,↓Zbt,↓Zbu,↓Zbv,↓Zbw,↓Zbx,↓Zby,↓Zbz,↓Zb0,↓reduceIte,Zb1,Zb2,Zb3,Zb4,Zb5,Zb6,Zb7,Zb8,Zbx,Zb9,Zby,Zca,Zcb,Zcc,Zcd,Zce,Zcf,Zcg,Zch,Zci,Zcj,Zck,Zcl,Zcm,Zcn,Zco,Zcp,Zcq,Zcr,Zcs,Zct,Zcu,Zcv,Zcw,Zcx,Zcy,Zcz,Zc0,Zc1,Zc2,Zc3,Zc4,Zc5,Zc6,Zc7,Zc8,Zc9,Zda,Zdb,Zdc,Zdd,Zde,Zdf,Zdg,Zdh,Zdi,Zdj,Zdk,Zdl,Zdm,Zdn,Zdo,Zdp,Zdq,Zdr,Zds,Zdt,Zdu,Zdv,Zdw,Zdx,Zdy,Zdz,Zd0,Zd1,Zd2,Zd3,Zd4,Zd5,Zd6,Zd7,Zd8,Zd9,Zea,Zeb,Zec,Zbu,Zed,Zee,Zef,Zeg,Zeh,Zei,Zej,Zek,Zel,Zem,Zen,Zeo,Zep,Zeq,Zer,Zes,Zet,Zeu,Zev,Zew,Zex,Zey,Zez,Ze0,Ze1,Ze2,Ze3,Ze4,Ze5,Ze6,Ze7,Ze8,Ze9,Zfa,Zfb,Zfc,Zfd,Zfe,Zff,Zfg,Zfh,Zfi,Zfj,Zfk,Zfl,Zfm,Zfn,Zfo,Zfp,Zfq,Zfr,Zfs,Zft,Zfu,Zfv,Zfw,Zfx,Zfy,Zfz,Zf0,Zf1,Zf2,Zf3,Zf4,Zf5,Zf6,Zf7,Zf8,Zf9,Zga,Zgb,Zgc,Zgd,Zge,Zgf,Zgg,Zgh,Zgi,Zgj,Zgk,Zgl,Zgm,Zgn,Zgo,Zgp,Zgq,Zgr,Zgs,Zgt,Zgu,Zgv,Zgw,Zgx,Zgy,Zgz,Zg0,Zg1,Zg2,Zg3,Zg4,Zg5,Zg6,Zg7,Zg8,Zg9,Zha,Zhb,Zhc,Zhd,Zhe,Zhf,Zhg,Zhh,Zhi,Zhj,Zhk,Zhl,Zhm,Zhn,Zho,Zhp,Zhq,Zhr,Zhs,Zht,Zhu,Zhv,Zhw,Zhx,Zhy,Zhz,Zh0,Zh1,Zh2,Zh3,Zbv,Zh4,Zbw,Zh5,Zh6,Zbz,Zb0,Nat.reduceBEq,reduceIte,Nat.reduceEqDiff,Nat.reduceAdd,Nat.reduceMul,Nat.reduceSub,Nat.reduceLT,Nat.reduceLeDiff,reduceCtorEq,eq_self,ne_eq,ge_iff_le,gt_iff_lt,ite_self,implies_true,Int.reduceToNat,Int.reduceNeg,Zk,t1, t2, t3, m_spec_wmGood]
      repeat' split
      all_goals first
        | (refine bad ?_; simp_all [zo]; done)
        | (refine step _ ?_ ?_ ?_ ?_ ?_ <;> first | (simp only [Zcf, Zby, Zbz, Zb0, Nat.reduceBEq]; done) | (simp_all [zo]; done))
    · have hi : i = w.R.length := by omega
      subst hi
      have key := wmGood_tail w1 w2 g1 g2 e1 e2 hz
      rw [key]
      have hc : w.X < 0 ∨ w.W ≤ w.X ∨ (0 ≤ w.X ∧ w.X < w.W ∧ (w.Y < 0 ∨ w.H ≤ w.Y ∨ (0 ≤ w.Y ∧ w.Y < w.H ∧ (w.Way < 0 ∨ 3 < w.Way ∨ 0 ≤ w.Way ∧ w.Way ≤ 3)))) := by omega
      rcases hc with c | c | ⟨c, c', d | d | ⟨d, d', e | e | ⟨e, e'⟩⟩⟩ <;>
      simp(config:={contextual:=true,maxSteps:=2000000,implicitDefEqProofs:=false})(disch:=first|omega|(simp only[Ze8,Ze7,List.length_map,List.length_set,List.length_append,List.length_cons,List.length_nil];first|done|omega))only[↓Zaa,↓Zab,↓Zac,↓Zad,↓Zae,↓Zaf,↓Zag,↓Zah,↓Zai,↓Zaj,↓Zak,↓Zal,↓Zam,↓Zan,↓Zao,↓Zap,↓Zaq,↓Zar,↓Zas,↓Zat,↓Zau,↓Zav,↓Zaw,↓Zax,↓Zay,↓Zaz,↓Za0,↓Za1,↓Za2,↓Za3,↓Za4,↓Za5,↓Za6,↓Za7,↓Za8,↓Za9,↓Zba,↓Zbb,↓Zbc,↓Zbd,↓Zbe,↓Zbf,↓Zbg,↓Zbh,↓Zbi,↓Zbj,↓Zbk,↓Zbl,↓Zbm,↓Zbn,↓Zbo,↓Zbp,↓Zbq,↓Zbr,↓Zbs,↓Zbt,↓Zbu,↓Zbv,↓Zbw,↓Zbx,↓Zby,↓Zbz,↓Zb0,↓reduceIte,Zb1,Zb2,Zb3,Zb4,Zb5,Zb6,Zb7,Zb8,Zbx,Zb9,Zby,Zca,Zcb,Zcc,Zcd,Zce,Zcf,Zcg,Zch,Zci,Zcj,Zck,Zcl,Zcm,Zcn,Zco,Zcp,Zcq,Zcr,Zcs,Zct,Zcu,Zcv,Zcw,Zcx,Zcy,Zcz,Zc0,Zc1,Zc2,Zc3,Zc4,Zc5,Zc6,Zc7,Zc8,Zc9,Zda,Zdb,Zdc,Zdd,Zde,Zdf,Zdg,Zdh,Zdi,Zdj,Zdk,Zdl,Zdm,Zdn,Zdo,Zdp,Zdq,Zdr,Zds,Zdt,Zdu,Zdv,Zdw,Zdx,Zdy,Zdz,Zd0,Zd1,Zd2,Zd3,Zd4,Zd5,Zd6,Zd7,Zd8,Zd9,Zea,Zeb,Zec,Zbu,Zed,Zee,Zef,Zeg,Zeh,Zei,Zej,Zek,Zel,Zem,Zen,Zeo,Zep,Zeq,Zer,Zes,Zet,Zeu,Zev,Zew,Zex,Zey,Zez,Ze0,Ze1,Ze2,Ze3,Ze4,Ze5,Ze6,Ze7,Ze8,Ze9,Zfa,Zfb,Zfc,Zfd,Zfe,Zff,Zfg,Zfh,Zfi,Zfj,Zfk,Zfl,Zfm,Zfn,Zfo,Zfp,Zfq,Zfr,Zfs,Zft,Zfu,Zfv,Zfw,Zfx,Zfy,Zfz,Zf0,Zf1,Zf2,Zf3,Zf4,Zf5,Zf6,Zf7,Zf8,Zf9,Zga,Zgb,Zgc,Zgd,Zge,Zgf,Zgg,Zgh,Zgi,Zgj,Zgk,Zgl,Zgm,Zgn,Zgo,Zgp,Zgq,Zgr,Zgs,Zgt,Zgu,Zgv,Zgw,Zgx,Zgy,Zgz,Zg0,Zg1,Zg2,Zg3,Zg4,Zg5,Zg6,Zg7,Zg8,Zg9,Zha,Zhb,Zhc,Zhd,Zhe,Zhf,Zhg,Zhh,Zhi,Zhj,Zhk,Zhl,Zhm,Zhn,Zho,Zhp,Zhq,Zhr,Zhs,Zht,Zhu,Zhv,Zhw,Zhx,Zhy,Zhz,Zh0,Zh1,Zh2,Zh3,Zbv,Zh4,Zbw,Zh5,Zh6,Zbz,Zb0,Nat.reduceBEq,reduceIte,Nat.reduceEqDiff,Nat.reduceAdd,Nat.reduceMul,Nat.reduceSub,Nat.reduceLT,Nat.reduceLeDiff,reduceCtorEq,eq_self,ne_eq,ge_iff_le,gt_iff_lt,ite_self,implies_true,Int.reduceToNat,Int.reduceNeg,Zk,t1, t2, t3, m_spec_wmGood, (l1In_pu hm1 _ _ _).wa]

end Go.AM
