/- The law FnWormsDie: its parts. -/
import Derived.Test.YtfaceobahodhmaaW18b
set_option maxHeartbeats 4000000
set_option maxRecDepth 100000
namespace Go.AM
set_option linter.unusedVariables false
set_option linter.unusedSimpArgs false
variable {M : Prog}

theorem sIsTaste_pu (H : Has M) (s : List UInt8) : Pu M n_spec_IsTaste [.string (str s)] (.bool (isTaste s)) := by
  refine Pu.mk fun h => Wa_of H.h_spec_IsTaste ?_
  simp(config:={contextual:=true,maxSteps:=2000000,implicitDefEqProofs:=false})(disch:=first|omega|(simp only[Ze8,Ze7,List.length_map,List.length_set,List.length_append,List.length_cons,List.length_nil];first|done|omega))only[↓Zaa,↓Zab,↓Zac,↓Zad,↓Zae,↓Zaf,↓Zag,↓Zah,↓Zai,↓Zaj,↓Zak,↓Zal,↓Zam,↓Zan,↓Zao,↓Zap,↓Zaq,↓Zar,↓Zas,↓Zat,↓Zau,↓Zav,↓Zaw,↓Zax,↓Zay,↓Zaz,↓Za0,↓Za1,↓Za2,↓Za3,↓Za4,↓Za5,↓Za6,↓Za7,↓Za8,↓Za9,↓Zba,↓Zbb,↓Zbc,↓Zbd,↓Zbe,↓Zbf,↓Zbg,↓Zbh,↓Zbi,↓Zbj,↓Zbk,↓Zbl,↓Zbm,↓Zbn,↓Zbo,↓Zbp,↓Zbq,↓Zbr,↓Zbs,↓Zbt,↓Zbu,↓Zbv,↓Zbw,↓Zbx,↓Zby,↓Zbz,↓Zb0,↓reduceIte,Zb1,Zb2,Zb3,Zb4,Zb5,Zb6,Zb7,Zb8,Zbx,Zb9,Zby,Zca,Zcb,Zcc,Zcd,Zce,Zcf,Zcg,Zch,Zci,Zcj,Zck,Zcl,Zcm,Zcn,Zco,Zcp,Zcq,Zcr,Zcs,Zct,Zcu,Zcv,Zcw,Zcx,Zcy,Zcz,Zc0,Zc1,Zc2,Zc3,Zc4,Zc5,Zc6,Zc7,Zc8,Zc9,Zda,Zdb,Zdc,Zdd,Zde,Zdf,Zdg,Zdh,Zdi,Zdj,Zdk,Zdl,Zdm,Zdn,Zdo,Zdp,Zdq,Zdr,Zds,Zdt,Zdu,Zdv,Zdw,Zdx,Zdy,Zdz,Zd0,Zd1,Zd2,Zd3,Zd4,Zd5,Zd6,Zd7,Zd8,Zd9,Zea,Zeb,Zec,Zbu,Zed,Zee,Zef,Zeg,Zeh,Zei,Zej,Zek,Zel,Zem,Zen,Zeo,Zep,Zeq,Zer,Zes,Zet,Zeu,Zev,Zew,Zex,Zey,Zez,Ze0,Ze1,Ze2,Ze3,Ze4,Ze5,Ze6,Ze7,Ze8,Ze9,Zfa,Zfb,Zfc,Zfd,Zfe,Zff,Zfg,Zfh,Zfi,Zfj,Zfk,Zfl,Zfm,Zfn,Zfo,Zfp,Zfq,Zfr,Zfs,Zft,Zfu,Zfv,Zfw,Zfx,Zfy,Zfz,Zf0,Zf1,Zf2,Zf3,Zf4,Zf5,Zf6,Zf7,Zf8,Zf9,Zga,Zgb,Zgc,Zgd,Zge,Zgf,Zgg,Zgh,Zgi,Zgj,Zgk,Zgl,Zgm,Zgn,Zgo,Zgp,Zgq,Zgr,Zgs,Zgt,Zgu,Zgv,Zgw,Zgx,Zgy,Zgz,Zg0,Zg1,Zg2,Zg3,Zg4,Zg5,Zg6,Zg7,Zg8,Zg9,Zha,Zhb,Zhc,Zhd,Zhe,Zhf,Zhg,Zhh,Zhi,Zhj,Zhk,Zhl,Zhm,Zhn,Zho,Zhp,Zhq,Zhr,Zhs,Zht,Zhu,Zhv,Zhw,Zhx,Zhy,Zhz,Zh0,Zh1,Zh2,Zh3,Zbv,Zh4,Zbw,Zh5,Zh6,Zbz,Zb0,Nat.reduceBEq,reduceIte,Nat.reduceEqDiff,Nat.reduceAdd,Nat.reduceMul,Nat.reduceSub,Nat.reduceLT,Nat.reduceLeDiff,reduceCtorEq,eq_self,ne_eq,ge_iff_le,gt_iff_lt,ite_self,implies_true,Int.reduceToNat,Int.reduceNeg,Zk,m_spec_IsTaste, (wmTaste_pu H.h_spec_wmTaste H.h_spec_wmTastes s).wa]

theorem sIsWorm_pu (H : Has M) (w : Wm) (hr : w.Rng) : Pu M n_spec_IsWorm [w.v] (.bool w.good) := by
  refine Pu.mk fun h => Wa_of H.h_spec_IsWorm ?_
  have hg := wmGood_pu H.h_spec_wmGood H.h_spec_l1In w hr
  rw [Wm.v_def] at hg
  simp(config:={contextual:=true,maxSteps:=2000000,implicitDefEqProofs:=false})(disch:=first|omega|(simp only[Ze8,Ze7,List.length_map,List.length_set,List.length_append,List.length_cons,List.length_nil];first|done|omega))only[↓Zaa,↓Zab,↓Zac,↓Zad,↓Zae,↓Zaf,↓Zag,↓Zah,↓Zai,↓Zaj,↓Zak,↓Zal,↓Zam,↓Zan,↓Zao,↓Zap,↓Zaq,↓Zar,↓Zas,↓Zat,↓Zau,↓Zav,↓Zaw,↓Zax,↓Zay,↓Zaz,↓Za0,↓Za1,↓Za2,↓Za3,↓Za4,↓Za5,↓Za6,↓Za7,↓Za8,↓Za9,↓Zba,↓Zbb,↓Zbc,↓Zbd,↓Zbe,↓Zbf,↓Zbg,↓Zbh,↓Zbi,↓Zbj,↓Zbk,↓Zbl,↓Zbm,↓Zbn,↓Zbo,↓Zbp,↓Zbq,↓Zbr,↓Zbs,↓Zbt,↓Zbu,↓Zbv,↓Zbw,↓Zbx,↓Zby,↓Zbz,↓Zb0,↓reduceIte,Zb1,Zb2,Zb3,Zb4,Zb5,Zb6,Zb7,Zb8,Zbx,Zb9,Zby,Zca,Zcb,Zcc,Zcd,Zce,Zcf,Zcg,Zch,Zci,Zcj,Zck,Zcl,Zcm,Zcn,Zco,Zcp,Zcq,Zcr,Zcs,Zct,Zcu,Zcv,Zcw,Zcx,Zcy,Zcz,Zc0,Zc1,Zc2,Zc3,Zc4,Zc5,Zc6,Zc7,Zc8,Zc9,Zda,Zdb,Zdc,Zdd,Zde,Zdf,Zdg,Zdh,Zdi,Zdj,Zdk,Zdl,Zdm,Zdn,Zdo,Zdp,Zdq,Zdr,Zds,Zdt,Zdu,Zdv,Zdw,Zdx,Zdy,Zdz,Zd0,Zd1,Zd2,Zd3,Zd4,Zd5,Zd6,Zd7,Zd8,Zd9,Zea,Zeb,Zec,Zbu,Zed,Zee,Zef,Zeg,Zeh,Zei,Zej,Zek,Zel,Zem,Zen,Zeo,Zep,Zeq,Zer,Zes,Zet,Zeu,Zev,Zew,Zex,Zey,Zez,Ze0,Ze1,Ze2,Ze3,Ze4,Ze5,Ze6,Ze7,Ze8,Ze9,Zfa,Zfb,Zfc,Zfd,Zfe,Zff,Zfg,Zfh,Zfi,Zfj,Zfk,Zfl,Zfm,Zfn,Zfo,Zfp,Zfq,Zfr,Zfs,Zft,Zfu,Zfv,Zfw,Zfx,Zfy,Zfz,Zf0,Zf1,Zf2,Zf3,Zf4,Zf5,Zf6,Zf7,Zf8,Zf9,Zga,Zgb,Zgc,Zgd,Zge,Zgf,Zgg,Zgh,Zgi,Zgj,Zgk,Zgl,Zgm,Zgn,Zgo,Zgp,Zgq,Zgr,Zgs,Zgt,Zgu,Zgv,Zgw,Zgx,Zgy,Zgz,Zg0,Zg1,Zg2,Zg3,Zg4,Zg5,Zg6,Zg7,Zg8,Zg9,Zha,Zhb,Zhc,Zhd,Zhe,Zhf,Zhg,Zhh,Zhi,Zhj,Zhk,Zhl,Zhm,Zhn,Zho,Zhp,Zhq,Zhr,Zhs,Zht,Zhu,Zhv,Zhw,Zhx,Zhy,Zhz,Zh0,Zh1,Zh2,Zh3,Zbv,Zh4,Zbw,Zh5,Zh6,Zbz,Zb0,Nat.reduceBEq,reduceIte,Nat.reduceEqDiff,Nat.reduceAdd,Nat.reduceMul,Nat.reduceSub,Nat.reduceLT,Nat.reduceLeDiff,reduceCtorEq,eq_self,ne_eq,ge_iff_le,gt_iff_lt,ite_self,implies_true,Int.reduceToNat,Int.reduceNeg,Zk,m_spec_IsWorm, Wm.v_def, hg.wa]

theorem eqW (a b : Wm) (h : a = b) : eqCells [.i .i64, .i .i64, .s, .s, .i .i64, .i .i64, .i .i64] [.int .i64 a.W, .int .i64 a.H, .string (str a.R), .string (str a.D), .int .i64 a.X, .int .i64 a.Y, .int .i64 a.Way]
    [.int .i64 b.W, .int .i64 b.H, .string (str b.R), .string (str b.D), .int .i64 b.X, .int .i64 b.Y, .int .i64 b.Way] = some true := by
  subst h
  have hb : ∀ x : ByteArray, (x == x) = true := fun x => by
    obtain ⟨⟨l⟩⟩ := x
    show ByteArray.beq _ _ = true
    unfold ByteArray.beq
    simp
  simp [eqCells, hb]

theorem bb_self {b : Bool} : (b == b) = true := by cases b <;> rfl
theorem bb_tf : ((true : Bool) == false) = false := rfl
theorem bb_ft : ((false : Bool) == true) = false := rfl

def LawK (h : Heap) : Value → Heap → Nat → Prop := FlatK (fun v => v = .bool true) h

theorem big_pu (H : Has M) (a b : Option Addr) (n m c d : Nat) (hn : n ≤ 9223372036854775807) (hm : m ≤ 9223372036854775807) : Pu M n_laws_big [.slice a n c, .slice b m d] (.bool (decide (1048576 < n ∨ 1048576 - (n : Int) < m))) := by
  refine Pu.mk fun h => Wa_of H.h_laws_big ?_
  have hc : 1048576 < n ∨ (n ≤ 1048576) := by omega
  rcases hc with hc | hc
  all_goals simp(config:={contextual:=true,maxSteps:=2000000,implicitDefEqProofs:=false})(disch:=first|omega|(simp only[Ze8,Ze7,List.length_map,List.length_set,List.length_append,List.length_cons,List.length_nil];first|done|omega))only[↓Zaa,↓Zab,↓Zac,↓Zad,↓Zae,↓Zaf,↓Zag,↓Zah,↓Zai,↓Zaj,↓Zak,↓Zal,↓Zam,↓Zan,↓Zao,↓Zap,↓Zaq,↓Zar,↓Zas,↓Zat,↓Zau,↓Zav,↓Zaw,↓Zax,↓Zay,↓Zaz,↓Za0,↓Za1,↓Za2,↓Za3,↓Za4,↓Za5,↓Za6,↓Za7,↓Za8,↓Za9,↓Zba,↓Zbb,↓Zbc,↓Zbd,↓Zbe,↓Zbf,↓Zbg,↓Zbh,↓Zbi,↓Zbj,↓Zbk,↓Zbl,↓Zbm,↓Zbn,↓Zbo,↓Zbp,↓Zbq,↓Zbr,↓Zbs,↓Zbt,↓Zbu,↓Zbv,↓Zbw,↓Zbx,↓Zby,↓Zbz,↓Zb0,↓reduceIte,Zb1,Zb2,Zb3,Zb4,Zb5,Zb6,Zb7,Zb8,Zbx,Zb9,Zby,Zca,Zcb,Zcc,Zcd,Zce,Zcf,Zcg,Zch,Zci,Zcj,Zck,Zcl,Zcm,Zcn,Zco,Zcp,Zcq,Zcr,Zcs,Zct,Zcu,Zcv,Zcw,Zcx,Zcy,Zcz,Zc0,Zc1,Zc2,Zc3,Zc4,Zc5,Zc6,Zc7,Zc8,Zc9,Zda,Zdb,Zdc,Zdd,Zde,Zdf,Zdg,Zdh,Zdi,Zdj,Zdk,Zdl,Zdm,Zdn,Zdo,Zdp,Zdq,Zdr,Zds,Zdt,Zdu,Zdv,Zdw,Zdx,Zdy,Zdz,Zd0,Zd1,Zd2,Zd3,Zd4,Zd5,Zd6,Zd7,Zd8,Zd9,Zea,Zeb,Zec,Zbu,Zed,Zee,Zef,Zeg,Zeh,Zei,Zej,Zek,Zel,Zem,Zen,Zeo,Zep,Zeq,Zer,Zes,Zet,Zeu,Zev,Zew,Zex,Zey,Zez,Ze0,Ze1,Ze2,Ze3,Ze4,Ze5,Ze6,Ze7,Ze8,Ze9,Zfa,Zfb,Zfc,Zfd,Zfe,Zff,Zfg,Zfh,Zfi,Zfj,Zfk,Zfl,Zfm,Zfn,Zfo,Zfp,Zfq,Zfr,Zfs,Zft,Zfu,Zfv,Zfw,Zfx,Zfy,Zfz,Zf0,Zf1,Zf2,Zf3,Zf4,Zf5,Zf6,Zf7,Zf8,Zf9,Zga,Zgb,Zgc,Zgd,Zge,Zgf,Zgg,Zgh,Zgi,Zgj,Zgk,Zgl,Zgm,Zgn,Zgo,Zgp,Zgq,Zgr,Zgs,Zgt,Zgu,Zgv,Zgw,Zgx,Zgy,Zgz,Zg0,Zg1,Zg2,Zg3,Zg4,Zg5,Zg6,Zg7,Zg8,Zg9,Zha,Zhb,Zhc,Zhd,Zhe,Zhf,Zhg,Zhh,Zhi,Zhj,Zhk,Zhl,Zhm,Zhn,Zho,Zhp,Zhq,Zhr,Zhs,Zht,Zhu,Zhv,Zhw,Zhx,Zhy,Zhz,Zh0,Zh1,Zh2,Zh3,Zbv,Zh4,Zbw,Zh5,Zh6,Zbz,Zb0,Nat.reduceBEq,reduceIte,Nat.reduceEqDiff,Nat.reduceAdd,Nat.reduceMul,Nat.reduceSub,Nat.reduceLT,Nat.reduceLeDiff,reduceCtorEq,eq_self,ne_eq,ge_iff_le,gt_iff_lt,ite_self,implies_true,Int.reduceToNat,Int.reduceNeg,Zk,m_laws_big]

structure Law1 (H : Has M) (h hh : Heap) (l : Nat) (t : Tm) (mv : Value) (w D E : Wm) (s meals : List UInt8) (life : Int) (ok sv : Bool) (v1 v2 : Value) (b5 b11 b13 b23 b25 : Nat) : Prop where
  l : l = h.length
  len : h.length ≤ hh.length
  more : CodeIn hh mv
  old : ∀ b, b < h.length → hh[b]? = h[b]?
  h5 : hh[b5]? = some (.cells w.cells none true)
  h11 : hh[b11]? = some (.cells D.cells none true)
  h13 : hh[b13]? = some (.cells D.cells none true)
  h23 : hh[b23]? = some (.cells E.cells none true)
  h25 : hh[b25]? = some (.cells E.cells none true)
  t1 : gt t 1 = some mv
  t4 : gt t 4 = some (.bool false)
  t5 : gt t 5 = some (.pointer (some ⟨b5, 0, none⟩))
  t6 : gt t 6 = some (.string (str s))
  t7 : gt t 7 = some (.int .i64 life)
  t8 : gt t 8 = some (.bool ok)
  t9 : gt t 9 = some (.int .i64 life)
  t10 : gt t 10 = some (.bool ok)
  t11 : gt t 11 = some (.pointer (some ⟨b11, 0, none⟩))
  t12 : gt t 12 = some (.bool ok)
  t13 : gt t 13 = some (.pointer (some ⟨b13, 0, none⟩))
  t14 : gt t 14 = some (.bool ok)
  t15 : gt t 15 = some v1
  t16 : gt t 16 = some (.bool ok)
  t17 : gt t 17 = some v2
  t18 : gt t 18 = some (.bool ok)
  t19 : gt t 19 = some (.string (str meals))
  t20 : gt t 20 = some (.bool ok)
  t21 : gt t 21 = some (.string (str meals))
  t22 : gt t 22 = some (.bool ok)
  t23 : gt t 23 = some (.pointer (some ⟨b23, 0, none⟩))
  t24 : gt t 24 = some (.bool sv)
  t25 : gt t 25 = some (.pointer (some ⟨b25, 0, none⟩))
  t26 : gt t 26 = some (.bool sv)

structure Law2 (h hh : Heap) (l : Nat) (t : Tm) (mv : Value) (w D E : Wm) (s meals : List UInt8) (life : Int) (ok sv : Bool) (v1 : Value) (b5 b11 b23 : Nat) : Prop where
  l : l = h.length
  len : h.length ≤ hh.length
  more : CodeIn hh mv
  h5 : hh[b5]? = some (.cells w.cells none true)
  h11 : hh[b11]? = some (.cells D.cells none true)
  h23 : hh[b23]? = some (.cells E.cells none true)
  t1 : gt t 1 = some mv
  t4 : gt t 4 = some (.bool false)
  t5 : gt t 5 = some (.pointer (some ⟨b5, 0, none⟩))
  t6 : gt t 6 = some (.string (str s))
  t7 : gt t 7 = some (.int .i64 life)
  t8 : gt t 8 = some (.bool ok)
  t11 : gt t 11 = some (.pointer (some ⟨b11, 0, none⟩))
  t15 : gt t 15 = some v1
  t19 : gt t 19 = some (.string (str meals))
  t23 : gt t 23 = some (.pointer (some ⟨b23, 0, none⟩))
  t24 : gt t 24 = some (.bool sv)

set_option maxRecDepth 100000 in
set_option maxHeartbeats 2000000 in
theorem law_c1 (H : Has M) {h hh : Heap} {l : Nat} {t : Tm} {mv : Value} {w D E : Wm} {s meals : List UInt8} {life : Int} {ok sv : Bool} {v1 v2 : Value} {b5 b11 b13 b23 b25 : Nat}
    (S : Law1 H h hh l t mv w D E s meals life ok sv v1 v2 b5 b11 b13 b23 b25) (hr : w.Rng) (hok : ok = (w.good && isTaste s)) (hsame : acall M n_laws_dSame [v1, v2] hh = some (.bool true, hh, hh.length))
    (hsv : sv = (ok && decide (0 < life))) (K : Ex → Tm → Heap → Nat → Prop)
    (hK : ∀ t', Law2 h hh l t' mv w D E s meals life ok sv v1 b5 b11 b23 → @Wc M m_laws_FnWormsDie_c2 t' hh l ⟨K⟩) : @Wc M m_laws_FnWormsDie_c1 t hh l ⟨K⟩ := by
  have h5 := S.h5; have h11 := S.h11; have h13 := S.h13; have h23 := S.h23; have h25 := S.h25
  simp only [Wm.cells_def] at h5 h11 h13 h23 h25
  have hl := S.l; have hlen := S.len
  have i1 := iIsTaste_pu H s
  have i2 := sIsTaste_pu H s
  have i3 := iIsWorm_pu H w hr
  have i4 := sIsWorm_pu H w hr
  simp only [Wm.v_def] at i3 i4
  have fin' : ∀ t', gt t' 1 = some mv → gt t' 4 = some (.bool false) → gt t' 5 = some (.pointer (some ⟨b5, 0, none⟩)) → gt t' 6 = some (.string (str s)) → gt t' 7 = some (.int .i64 life) → gt t' 8 = some (.bool ok) → gt t' 11 = some (.pointer (some ⟨b11, 0, none⟩)) →
      gt t' 15 = some v1 → gt t' 19 = some (.string (str meals)) → gt t' 23 = some (.pointer (some ⟨b23, 0, none⟩)) → gt t' 24 = some (.bool sv) → @Wc M m_laws_FnWormsDie_c2 t' hh l ⟨K⟩ := fun t' a1 a2 a3 a4 a5 a6 a7 a8 a9 a10 a11 =>
    hK t' ⟨S.l, S.len, S.more, S.h5, S.h11, S.h23, a1, a2, a3, a4, a5, a6, a7, a8, a9, a10, a11⟩
  have hl2 : l ≤ hh.length := by omega
  clear hK
  cases hgo : w.good <;> rw [hgo] at i3 i4 hok <;> cases hta : isTaste s <;> rw [hta] at i1 i2 hok <;> simp only [Bool.true_and, Bool.false_and, Bool.and_false, Bool.and_true] at hok <;> subst hok <;> simp only [Bool.true_and, Bool.false_and] at hsv <;> subst hsv
  all_goals
    simp(config:={contextual:=true,maxSteps:=2000000,implicitDefEqProofs:=false})(disch:=first|omega|(simp only[Ze8,Ze7,List.length_map,List.length_set,List.length_append,List.length_cons,List.length_nil];first|done|omega))only[↓Zaa,↓Zab,↓Zac,↓Zad,↓Zae,↓Zaf,↓Zag,↓Zah,↓Zai,↓Zaj,↓Zak,↓Zal,↓Zam,↓Zan,↓Zao,↓Zap,↓Zaq,↓Zar,↓Zas,↓Zat,↓Zau,↓Zav,↓Zaw,↓Zax,↓Zay,↓Zaz,↓Za0,↓Za1,↓Za2,↓Za3,↓Za4,↓Za5,↓Za6,↓Za7,↓Za8,↓Za9,↓Zba,↓Zbb,↓Zbc,↓Zbd,↓Zbe,↓Zbf,↓Zbg,↓Zbh,↓Zbi,↓Zbj,↓Zbk,↓Zbl,↓Zbm,↓Zbn,↓Zbo,↓Zbp,↓Zbq,↓Zbr,↓Zbs,↓Zbt,↓Zbv,↓Zbw,↓Zbx,↓Zby,↓Zbz,↓Zb0,↓reduceIte,Zb1,Zb2,Zb3,Zb4,Zb5,Zb6,Zb7,Zb8,Zbx,Zb9,Zby,Zca,Zcb,Zcc,Zcd,Zce,Zcf,Zcg,Zch,Zci,Zcj,Zck,Zcl,Zcm,Zcn,Zco,Zcp,Zcq,Zcr,Zcs,Zct,Zcu,Zcv,Zcw,Zcx,Zcy,Zcz,Zc0,Zc1,Zc2,Zc3,Zc4,Zc5,Zc6,Zc7,Zc8,Zc9,Zda,Zdb,Zdc,Zdd,Zde,Zdf,Zdg,Zdh,Zdi,Zdj,Zdk,Zdl,Zdm,Zdn,Zdo,Zdp,Zdq,Zdr,Zds,Zdt,Zdu,Zdv,Zdw,Zdx,Zdy,Zdz,Zd0,Zd1,Zd2,Zd3,Zd4,Zd5,Zd6,Zd7,Zd8,Zd9,Zea,Zeb,Zec,Zed,Zee,Zef,Zeg,Zeh,Zei,Zej,Zek,Zel,Zem,Zen,Zeo,Zep,Zeq,Zer,Zes,Zet,Zeu,Zev,Zew,Zex,Zey,Zez,Ze0,Ze1,Ze2,Ze3,Ze4,Ze5,Ze6,Ze7,Ze8,Ze9,Zfa,Zfb,Zfc,Zfd,Zfe,Zff,Zfg,Zfh,Zfi,Zfj,Zfk,Zfl,Zfm,Zfn,Zfo,Zfp,Zfq,Zfr,Zfs,Zft,Zfu,Zfv,Zfw,Zfx,Zfy,Zfz,Zf0,Zf1,Zf2,Zf3,Zf4,Zf5,Zf6,Zf7,Zf8,Zf9,Zga,Zgb,Zgc,Zgd,Zge,Zgf,Zgg,Zgh,Zgi,Zgj,Zgk,Zgl,Zgm,Zgn,Zgo,Zgp,Zgq,Zgr,Zgs,Zgt,Zgu,Zgv,Zgw,Zgx,Zgy,Zgz,Zg0,Zg1,Zg2,Zg3,Zg4,Zg5,Zg6,Zg7,Zg8,Zg9,Zha,Zhb,Zhc,Zhd,Zhe,Zhf,Zhg,Zhh,Zhi,Zhj,Zhk,Zhl,Zhm,Zhn,Zho,Zhp,Zhq,Zhr,Zhs,Zht,Zhu,Zhv,Zhw,Zhx,Zhy,Zhz,Zh0,Zh1,Zh2,Zh3,Zbv,Zh4,Zbw,Zh5,Zh6,Zbz,Zb0,Nat.reduceBEq,reduceIte,Nat.reduceEqDiff,Nat.reduceAdd,Nat.reduceMul,Nat.reduceSub,Nat.reduceLT,Nat.reduceLeDiff,reduceCtorEq,eq_self,ne_eq,ge_iff_le,gt_iff_lt,ite_self,implies_true,Int.reduceToNat,Int.reduceNeg,Zk,m_laws_FnWormsDie_c1, S.t1, S.t4, S.t5, S.t6, S.t7, S.t8, S.t9, S.t10, S.t11, S.t12, S.t13, S.t14, S.t15, S.t16, S.t17, S.t18, S.t19, S.t20, S.t21, S.t22, S.t23, S.t24, S.t25, S.t26, h5, h11, h13, h23, h25, Wa_eq hsame, i1.wa, i2.wa, i3.wa, i4.wa, eqW, bb_self, bb_tf, bb_ft]
    refine fin' _ ?_ ?_ ?_ ?_ ?_ ?_ ?_ ?_ ?_ ?_ ?_ <;> simp only [Zby, Zcf, Zbz, Zb0, Nat.reduceBEq]

set_option maxRecDepth 100000 in
set_option maxHeartbeats 2000000 in
theorem law_c2 (H : Has M) {h hh : Heap} {l : Nat} {t : Tm} {mv : Value} {w D E : Wm} {s meals : List UInt8} {life : Int} {ok sv : Bool} {v1 : Value} {b5 b11 b23 : Nat}
    (S : Law2 h hh l t mv w D E s meals life ok sv v1 b5 b11 b23) (hr : w.Rng) (hok : ok = (w.good && isTaste s))
    (hl : ok = true → D = (lifeOf w s).1 ∧ life = ((lifeOf w s).2.1.length : Int) ∧ meals = (lifeOf w s).2.1 ∧ ∃ bt g r, v1 = .slice (some ⟨bt, 0, g⟩) ((lifeOf w s).2.2.length + 1) 1 ∧ hh[bt]? = some (.cells ((nodeV w :: (lifeOf w s).2.2).map iv) g r)) (K : Ex → Tm → Heap → Nat → Prop)
    (hK : ∀ t' hh' l', h.length ≤ l' → Law2 h hh' h.length t' mv w D E s meals life ok sv v1 b5 b11 b23 → @Wc M m_laws_FnWormsDie_c3 t' hh' l' ⟨K⟩) : @Wc M m_laws_FnWormsDie_c2 t hh l ⟨K⟩ := by
  have hll := S.l; have hlen := S.len
  have h5 := S.h5; have h11 := S.h11
  simp only [Wm.cells_def] at h5 h11
  cases ok
  · simp(config:={contextual:=true,maxSteps:=2000000,implicitDefEqProofs:=false})(disch:=first|omega|(simp only[Ze8,Ze7,List.length_map,List.length_set,List.length_append,List.length_cons,List.length_nil];first|done|omega))only[↓Zaa,↓Zab,↓Zac,↓Zad,↓Zae,↓Zaf,↓Zag,↓Zah,↓Zai,↓Zaj,↓Zak,↓Zal,↓Zam,↓Zan,↓Zao,↓Zap,↓Zaq,↓Zar,↓Zas,↓Zat,↓Zau,↓Zav,↓Zaw,↓Zax,↓Zay,↓Zaz,↓Za0,↓Za1,↓Za2,↓Za3,↓Za4,↓Za5,↓Za6,↓Za7,↓Za8,↓Za9,↓Zba,↓Zbb,↓Zbc,↓Zbd,↓Zbe,↓Zbf,↓Zbg,↓Zbh,↓Zbi,↓Zbj,↓Zbk,↓Zbl,↓Zbm,↓Zbn,↓Zbo,↓Zbp,↓Zbq,↓Zbr,↓Zbs,↓Zbt,↓Zbv,↓Zbw,↓Zbx,↓Zby,↓Zbz,↓Zb0,↓reduceIte,Zb1,Zb2,Zb3,Zb4,Zb5,Zb6,Zb7,Zb8,Zbx,Zb9,Zby,Zca,Zcb,Zcc,Zcd,Zce,Zcf,Zcg,Zch,Zci,Zcj,Zck,Zcl,Zcm,Zcn,Zco,Zcp,Zcq,Zcr,Zcs,Zct,Zcu,Zcv,Zcw,Zcx,Zcy,Zcz,Zc0,Zc1,Zc2,Zc3,Zc4,Zc5,Zc6,Zc7,Zc8,Zc9,Zda,Zdb,Zdc,Zdd,Zde,Zdf,Zdg,Zdh,Zdi,Zdj,Zdk,Zdl,Zdm,Zdn,Zdo,Zdp,Zdq,Zdr,Zds,Zdt,Zdu,Zdv,Zdw,Zdx,Zdy,Zdz,Zd0,Zd1,Zd2,Zd3,Zd4,Zd5,Zd6,Zd7,Zd8,Zd9,Zea,Zeb,Zec,Zed,Zee,Zef,Zeg,Zeh,Zei,Zej,Zek,Zel,Zem,Zen,Zeo,Zep,Zeq,Zer,Zes,Zet,Zeu,Zev,Zew,Zex,Zey,Zez,Ze0,Ze1,Ze2,Ze3,Ze4,Ze5,Ze6,Ze7,Ze8,Ze9,Zfa,Zfb,Zfc,Zfd,Zfe,Zff,Zfg,Zfh,Zfi,Zfj,Zfk,Zfl,Zfm,Zfn,Zfo,Zfp,Zfq,Zfr,Zfs,Zft,Zfu,Zfv,Zfw,Zfx,Zfy,Zfz,Zf0,Zf1,Zf2,Zf3,Zf4,Zf5,Zf6,Zf7,Zf8,Zf9,Zga,Zgb,Zgc,Zgd,Zge,Zgf,Zgg,Zgh,Zgi,Zgj,Zgk,Zgl,Zgm,Zgn,Zgo,Zgp,Zgq,Zgr,Zgs,Zgt,Zgu,Zgv,Zgw,Zgx,Zgy,Zgz,Zg0,Zg1,Zg2,Zg3,Zg4,Zg5,Zg6,Zg7,Zg8,Zg9,Zha,Zhb,Zhc,Zhd,Zhe,Zhf,Zhg,Zhh,Zhi,Zhj,Zhk,Zhl,Zhm,Zhn,Zho,Zhp,Zhq,Zhr,Zhs,Zht,Zhu,Zhv,Zhw,Zhx,Zhy,Zhz,Zh0,Zh1,Zh2,Zh3,Zbv,Zh4,Zbw,Zh5,Zh6,Zbz,Zb0,Nat.reduceBEq,reduceIte,Nat.reduceEqDiff,Nat.reduceAdd,Nat.reduceMul,Nat.reduceSub,Nat.reduceLT,Nat.reduceLeDiff,reduceCtorEq,eq_self,ne_eq,ge_iff_le,gt_iff_lt,ite_self,implies_true,Int.reduceToNat,Int.reduceNeg,Zk,m_laws_FnWormsDie_c2, S.t8]
    refine hK _ _ _ (by omega) ⟨rfl, S.len, S.more, S.h5, S.h11, S.h23, ?_, ?_, ?_, ?_, ?_, ?_, ?_, ?_, ?_, ?_, ?_⟩ <;> simp only [Zby, Zcf, Zbz, Zb0, Nat.reduceBEq, S.t1, S.t4, S.t5, S.t6, S.t7, S.t8, S.t11, S.t15, S.t19, S.t23, S.t24, Zcl]
  · obtain ⟨rfl, rfl, rfl, bt, g, r, rfl, hbt⟩ := hl rfl
    have hok := hok.symm
    rw [Bool.and_eq_true] at hok
    have gw := good_of hok.1
    have hgt := Wm.good_t gw
    obtain ⟨f1, f2, f3, f4, f5, f6⟩ := life_facts gw s
    have rD := good_rng f1
    have hrD : (lifeOf w s).1.Rng := ⟨by omega, by omega⟩
    have hgD := Wm.good_t f1
    have hfresh := fresh_home (s := s) gw hok.2
    have hlenL := lifeOf_len gw s
    have c1 := linesLeft_pu H w hr
    have c2 := linesLeft_pu H (lifeOf w s).1 hrD
    have c3 := iLifeOf_pu H (lifeOf w s).1 hrD s
    have c4 := iIsWorm_pu H (lifeOf w s).1 hrD
    have c5 := iWormAfter_pu H w hr s ((lifeOf w s).2.1.length : Int)
    have hwa : wormAfter w s ((lifeOf w s).2.1.length : Int) = some (lifeOf w s).1 := by
      unfold wormAfter
      rw [if_pos ⟨by rw [hgt, hok.2]; rfl, by omega, by omega⟩]
      exact f6
    rw [hwa] at c5
    rw [hgt] at c1
    rw [hgD] at c2 c4
    rw [hgD, hok.2, lifeOf_none f2] at c3
    have n1 := node_range gw
    have n2 := node_range f1
    have o1 := good_ones gw
    have g1 := grid_mul gw.g.w1 gw.g.w2 gw.g.h1 gw.g.h2
    have w1 := gw.g.w1; have w2 := gw.g.w2; have w3 := gw.g.h1; have w4 := gw.g.h2
    have k0 : (nodeV w :: (lifeOf w s).2.2).getD 0 0 = w.Y * w.W + w.X := rfl
    have k1 : (nodeV w :: (lifeOf w s).2.2).getD (lifeOf w s).2.1.length 0 = (lifeOf w s).1.Y * (lifeOf w s).1.W + (lifeOf w s).1.X := f5
    have kl : (nodeV w :: (lifeOf w s).2.2).length = (lifeOf w s).2.2.length + 1 := rfl
    generalize hL : lifeOf w s = L at *
    obtain ⟨D, ml, tr⟩ := L
    simp only at *
    generalize nodeV w :: tr = trk at *
    unfold nodeV at n1 n2
    have d1 := f1.x1; have d2 := f1.x2; have d3 := f1.y1; have d4 := f1.y2
    have e1 := gw.x1; have e2 := gw.x2; have e3 := gw.y1; have e4 := gw.y2
    have hdw : D.W = w.W := by have := (live_WH (s := s) (ones w) w).1; rw [show live s (ones w) w = lifeOf w s from rfl, hL] at this; exact this
    simp only [optV, Wm.v_def, Bool.and_self, if_true, List.length_nil] at c1 c2 c3 c4 c5
    have fr : (ones w : Int) = 2 * w.W * w.H → trk.getD ml.length 0 = trk.getD 0 0 := by
      intro e
      obtain ⟨a, b⟩ := hfresh e
      rw [k0, k1, a, b, hdw]
    have hm2 : 2 * w.W * w.H = 2 * (w.W * w.H) := Int.mul_assoc ..
    have hb5 : b5 < hh.length := (List.getElem?_eq_some_iff.1 h5).1
    have hb11 : b11 < hh.length := (List.getElem?_eq_some_iff.1 h11).1
    have hb23 : b23 < hh.length := (List.getElem?_eq_some_iff.1 S.h23).1
    have hbtl : bt < hh.length := (List.getElem?_eq_some_iff.1 hbt).1
    by_cases hf : (ones w : Int) = 2 * w.W * w.H
    · have fr := fr hf
      simp(config:={contextual:=true,maxSteps:=2000000,implicitDefEqProofs:=false})(disch:=first|omega|(simp only[Ze8,Ze7,List.length_map,List.length_set,List.length_append,List.length_cons,List.length_nil];first|done|omega))only[↓Zaa,↓Zab,↓Zac,↓Zad,↓Zae,↓Zaf,↓Zag,↓Zah,↓Zai,↓Zaj,↓Zak,↓Zal,↓Zam,↓Zan,↓Zao,↓Zap,↓Zaq,↓Zar,↓Zas,↓Zat,↓Zau,↓Zav,↓Zaw,↓Zax,↓Zay,↓Zaz,↓Za0,↓Za1,↓Za2,↓Za3,↓Za4,↓Za5,↓Za6,↓Za7,↓Za8,↓Za9,↓Zba,↓Zbb,↓Zbc,↓Zbd,↓Zbe,↓Zbf,↓Zbg,↓Zbh,↓Zbi,↓Zbj,↓Zbk,↓Zbl,↓Zbm,↓Zbn,↓Zbo,↓Zbp,↓Zbq,↓Zbr,↓Zbs,↓Zbt,↓Zbv,↓Zbw,↓Zbx,↓Zby,↓Zbz,↓Zb0,↓reduceIte,Zb1,Zb2,Zb3,Zb4,Zb5,Zb6,Zb7,Zb8,Zbx,Zb9,Zby,Zca,Zcb,Zcc,Zcd,Zce,Zcf,Zcg,Zch,Zci,Zcj,Zck,Zcl,Zcm,Zcn,Zco,Zcp,Zcq,Zcr,Zcs,Zct,Zcu,Zcv,Zcw,Zcx,Zcy,Zcz,Zc0,Zc1,Zc2,Zc3,Zc4,Zc5,Zc6,Zc7,Zc8,Zc9,Zda,Zdb,Zdc,Zdd,Zde,Zdf,Zdg,Zdh,Zdi,Zdj,Zdk,Zdl,Zdm,Zdn,Zdo,Zdp,Zdq,Zdr,Zds,Zdt,Zdu,Zdv,Zdw,Zdx,Zdy,Zdz,Zd0,Zd1,Zd2,Zd3,Zd4,Zd5,Zd6,Zd7,Zd8,Zd9,Zea,Zeb,Zec,Zed,Zee,Zef,Zeg,Zeh,Zei,Zej,Zek,Zel,Zem,Zen,Zeo,Zep,Zeq,Zer,Zes,Zet,Zeu,Zev,Zew,Zex,Zey,Zez,Ze0,Ze1,Ze2,Ze3,Ze4,Ze5,Ze6,Ze7,Ze8,Ze9,Zfa,Zfb,Zfc,Zfd,Zfe,Zff,Zfg,Zfh,Zfi,Zfj,Zfk,Zfl,Zfm,Zfn,Zfo,Zfp,Zfq,Zfr,Zfs,Zft,Zfu,Zfv,Zfw,Zfx,Zfy,Zfz,Zf0,Zf1,Zf2,Zf3,Zf4,Zf5,Zf6,Zf7,Zf8,Zf9,Zga,Zgb,Zgc,Zgd,Zge,Zgf,Zgg,Zgh,Zgi,Zgj,Zgk,Zgl,Zgm,Zgn,Zgo,Zgp,Zgq,Zgr,Zgs,Zgt,Zgu,Zgv,Zgw,Zgx,Zgy,Zgz,Zg0,Zg1,Zg2,Zg3,Zg4,Zg5,Zg6,Zg7,Zg8,Zg9,Zha,Zhb,Zhc,Zhd,Zhe,Zhf,Zhg,Zhh,Zhi,Zhj,Zhk,Zhl,Zhm,Zhn,Zho,Zhp,Zhq,Zhr,Zhs,Zht,Zhu,Zhv,Zhw,Zhx,Zhy,Zhz,Zh0,Zh1,Zh2,Zh3,Zbv,Zh4,Zbw,Zh5,Zh6,Zbz,Zb0,Nat.reduceBEq,reduceIte,Nat.reduceEqDiff,Nat.reduceAdd,Nat.reduceMul,Nat.reduceSub,Nat.reduceLT,Nat.reduceLeDiff,reduceCtorEq,eq_self,ne_eq,ge_iff_le,gt_iff_lt,ite_self,implies_true,Int.reduceToNat,Int.reduceNeg,Zk,m_laws_FnWormsDie_c2, S.t1, S.t4, S.t5, S.t6, S.t7, S.t8, S.t11, S.t15, S.t19, S.t23, S.t24, h5, h11, hbt, c1.wa, c2.wa, c3.wa, c4.wa, c5.wa, eqW, bb_self, get_map_iv, k0, k1, Int.natCast_zero]
      refine hK _ _ _ (by omega) ⟨rfl, by rw [Ze7]; omega, S.more.app _, (Zev hb5).trans S.h5, (Zev hb11).trans S.h11, (Zev hb23).trans S.h23, ?_, ?_, ?_, ?_, ?_, ?_, ?_, ?_, ?_, ?_, ?_⟩ <;> simp only [Zby, Zcf, Zbz, Zb0, Nat.reduceBEq]
    · have hf' : ¬ (ones w : Int) = 2 * w.W * w.H := hf
      simp(config:={contextual:=true,maxSteps:=2000000,implicitDefEqProofs:=false})(disch:=first|omega|(simp only[Ze8,Ze7,List.length_map,List.length_set,List.length_append,List.length_cons,List.length_nil];first|done|omega))only[↓Zaa,↓Zab,↓Zac,↓Zad,↓Zae,↓Zaf,↓Zag,↓Zah,↓Zai,↓Zaj,↓Zak,↓Zal,↓Zam,↓Zan,↓Zao,↓Zap,↓Zaq,↓Zar,↓Zas,↓Zat,↓Zau,↓Zav,↓Zaw,↓Zax,↓Zay,↓Zaz,↓Za0,↓Za1,↓Za2,↓Za3,↓Za4,↓Za5,↓Za6,↓Za7,↓Za8,↓Za9,↓Zba,↓Zbb,↓Zbc,↓Zbd,↓Zbe,↓Zbf,↓Zbg,↓Zbh,↓Zbi,↓Zbj,↓Zbk,↓Zbl,↓Zbm,↓Zbn,↓Zbo,↓Zbp,↓Zbq,↓Zbr,↓Zbs,↓Zbt,↓Zbv,↓Zbw,↓Zbx,↓Zby,↓Zbz,↓Zb0,↓reduceIte,Zb1,Zb2,Zb3,Zb4,Zb5,Zb6,Zb7,Zb8,Zbx,Zb9,Zby,Zca,Zcb,Zcc,Zcd,Zce,Zcf,Zcg,Zch,Zci,Zcj,Zck,Zcl,Zcm,Zcn,Zco,Zcp,Zcq,Zcr,Zcs,Zct,Zcu,Zcv,Zcw,Zcx,Zcy,Zcz,Zc0,Zc1,Zc2,Zc3,Zc4,Zc5,Zc6,Zc7,Zc8,Zc9,Zda,Zdb,Zdc,Zdd,Zde,Zdf,Zdg,Zdh,Zdi,Zdj,Zdk,Zdl,Zdm,Zdn,Zdo,Zdp,Zdq,Zdr,Zds,Zdt,Zdu,Zdv,Zdw,Zdx,Zdy,Zdz,Zd0,Zd1,Zd2,Zd3,Zd4,Zd5,Zd6,Zd7,Zd8,Zd9,Zea,Zeb,Zec,Zed,Zee,Zef,Zeg,Zeh,Zei,Zej,Zek,Zel,Zem,Zen,Zeo,Zep,Zeq,Zer,Zes,Zet,Zeu,Zev,Zew,Zex,Zey,Zez,Ze0,Ze1,Ze2,Ze3,Ze4,Ze5,Ze6,Ze7,Ze8,Ze9,Zfa,Zfb,Zfc,Zfd,Zfe,Zff,Zfg,Zfh,Zfi,Zfj,Zfk,Zfl,Zfm,Zfn,Zfo,Zfp,Zfq,Zfr,Zfs,Zft,Zfu,Zfv,Zfw,Zfx,Zfy,Zfz,Zf0,Zf1,Zf2,Zf3,Zf4,Zf5,Zf6,Zf7,Zf8,Zf9,Zga,Zgb,Zgc,Zgd,Zge,Zgf,Zgg,Zgh,Zgi,Zgj,Zgk,Zgl,Zgm,Zgn,Zgo,Zgp,Zgq,Zgr,Zgs,Zgt,Zgu,Zgv,Zgw,Zgx,Zgy,Zgz,Zg0,Zg1,Zg2,Zg3,Zg4,Zg5,Zg6,Zg7,Zg8,Zg9,Zha,Zhb,Zhc,Zhd,Zhe,Zhf,Zhg,Zhh,Zhi,Zhj,Zhk,Zhl,Zhm,Zhn,Zho,Zhp,Zhq,Zhr,Zhs,Zht,Zhu,Zhv,Zhw,Zhx,Zhy,Zhz,Zh0,Zh1,Zh2,Zh3,Zbv,Zh4,Zbw,Zh5,Zh6,Zbz,Zb0,Nat.reduceBEq,reduceIte,Nat.reduceEqDiff,Nat.reduceAdd,Nat.reduceMul,Nat.reduceSub,Nat.reduceLT,Nat.reduceLeDiff,reduceCtorEq,eq_self,ne_eq,ge_iff_le,gt_iff_lt,ite_self,implies_true,Int.reduceToNat,Int.reduceNeg,Zk,m_laws_FnWormsDie_c2, S.t1, S.t4, S.t5, S.t6, S.t7, S.t8, S.t11, S.t15, S.t19, S.t23, S.t24, h5, h11, hbt, c1.wa, c2.wa, c3.wa, c4.wa, c5.wa, eqW, bb_self, get_map_iv, k0, k1, Int.natCast_zero]
      refine hK _ _ _ (by omega) ⟨rfl, by rw [Ze7]; omega, S.more.app _, (Zev hb5).trans S.h5, (Zev hb11).trans S.h11, (Zev hb23).trans S.h23, ?_, ?_, ?_, ?_, ?_, ?_, ?_, ?_, ?_, ?_, ?_⟩ <;> simp only [Zby, Zcf, Zbz, Zb0, Nat.reduceBEq]

end Go.AM
