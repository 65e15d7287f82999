/- The law FnWormsDie: the whole. -/
import Derived.Test.YtfaceobahodhmaaW20
set_option maxHeartbeats 4000000
set_option maxRecDepth 100000
namespace Go.AM
set_option linter.unusedVariables false
set_option linter.unusedSimpArgs false
variable {M : Prog}

def zeroWm : Wm := Wm.mk 0 0 [] [] 0 0 0

theorem optV_eq (o : Option Wm) : optV o = .tuple ⟨[(o.getD zeroWm).v, .bool o.isSome]⟩ := by
  cases o <;> rfl

set_option maxRecDepth 100000 in
set_option maxHeartbeats 4000000 in
theorem law_w (H : Has M) (h : Heap) (cv mv : Value) (n m : Nat) (hn : n ≤ 9223372036854775807) (hm : m ≤ 9223372036854775807) (hc : BytesIn h cv n) (hmv : BytesIn h mv m) : @Wa M n_laws_FnWormsDie [cv, mv] h ⟨LawK h⟩ := by
  refine Wa_of H.h_laws_FnWormsDie ?_
  obtain ⟨ca, cc, hcs⟩ := hc.sl
  obtain ⟨ma, mc, hms⟩ := hmv.sl
  have hbig := big_pu H ca ma n m cc mc hn hm
  rw [← hcs, ← hms] at hbig
  by_cases hb : 1048576 < n ∨ 1048576 - (n : Int) < m
  · rw [decide_eq_true hb] at hbig
    simp(config:={contextual:=true,maxSteps:=2000000,implicitDefEqProofs:=false})(disch:=first|omega|(simp only[Ze8,Ze7,List.length_map,List.length_set,List.length_append,List.length_cons,List.length_nil];first|done|omega))only[↓Zaa,↓Zab,↓Zac,↓Zad,↓Zae,↓Zaf,↓Zag,↓Zah,↓Zai,↓Zaj,↓Zak,↓Zal,↓Zam,↓Zan,↓Zao,↓Zap,↓Zaq,↓Zar,↓Zas,↓Zat,↓Zau,↓Zav,↓Zaw,↓Zax,↓Zay,↓Zaz,↓Za0,↓Za1,↓Za2,↓Za3,↓Za4,↓Za5,↓Za6,↓Za7,↓Za8,↓Za9,↓Zba,↓Zbb,↓Zbc,↓Zbd,↓Zbe,↓Zbf,↓Zbg,↓Zbh,↓Zbi,↓Zbj,↓Zbk,↓Zbl,↓Zbm,↓Zbn,↓Zbo,↓Zbp,↓Zbq,↓Zbr,↓Zbs,↓Zbt,↓Zbv,↓Zbw,↓Zbx,↓Zby,↓Zbz,↓Zb0,↓reduceIte,Zb1,Zb2,Zb3,Zb4,Zb5,Zb6,Zb7,Zb8,Zbx,Zb9,Zby,Zca,Zcb,Zcc,Zcd,Zce,Zcf,Zcg,Zch,Zci,Zcj,Zck,Zcl,Zcm,Zcn,Zco,Zcp,Zcq,Zcr,Zcs,Zct,Zcu,Zcv,Zcw,Zcx,Zcy,Zcz,Zc0,Zc1,Zc2,Zc3,Zc4,Zc5,Zc6,Zc7,Zc8,Zc9,Zda,Zdb,Zdc,Zdd,Zde,Zdf,Zdg,Zdh,Zdi,Zdj,Zdk,Zdl,Zdm,Zdn,Zdo,Zdp,Zdq,Zdr,Zds,Zdt,Zdu,Zdv,Zdw,Zdx,Zdy,Zdz,Zd0,Zd1,Zd2,Zd3,Zd4,Zd5,Zd6,Zd7,Zd8,Zd9,Zea,Zeb,Zec,Zed,Zee,Zef,Zeg,Zeh,Zei,Zej,Zek,Zel,Zem,Zen,Zeo,Zep,Zeq,Zer,Zes,Zet,Zeu,Zev,Zew,Zex,Zey,Zez,Ze0,Ze1,Ze2,Ze3,Ze4,Ze5,Ze6,Ze7,Ze8,Ze9,Zfa,Zfb,Zfc,Zfd,Zfe,Zff,Zfg,Zfh,Zfi,Zfj,Zfk,Zfl,Zfm,Zfn,Zfo,Zfp,Zfq,Zfr,Zfs,Zft,Zfu,Zfv,Zfw,Zfx,Zfy,Zfz,Zf0,Zf1,Zf2,Zf3,Zf4,Zf5,Zf6,Zf7,Zf8,Zf9,Zga,Zgb,Zgc,Zgd,Zge,Zgf,Zgg,Zgh,Zgi,Zgj,Zgk,Zgl,Zgm,Zgn,Zgo,Zgp,Zgq,Zgr,Zgs,Zgt,Zgu,Zgv,Zgw,Zgx,Zgy,Zgz,Zg0,Zg1,Zg2,Zg3,Zg4,Zg5,Zg6,Zg7,Zg8,Zg9,Zha,Zhb,Zhc,Zhd,Zhe,Zhf,Zhg,Zhh,Zhi,Zhj,Zhk,Zhl,Zhm,Zhn,Zho,Zhp,Zhq,Zhr,Zhs,Zht,Zhu,Zhv,Zhw,Zhx,Zhy,Zhz,Zh0,Zh1,Zh2,Zh3,Zbv,Zh4,Zbw,Zh5,Zh6,Zbz,Zb0,Nat.reduceBEq,reduceIte,Nat.reduceEqDiff,Nat.reduceAdd,Nat.reduceMul,Nat.reduceSub,Nat.reduceLT,Nat.reduceLeDiff,reduceCtorEq,eq_self,ne_eq,ge_iff_le,gt_iff_lt,ite_self,implies_true,Int.reduceToNat,Int.reduceNeg,Zk,m_laws_FnWormsDie, hbig.wa]
    exact fin_flat (by omega) rfl rfl
  · rw [decide_eq_false hb] at hbig
    have hcode := hc.code (by omega)
    have hmore := hmv.code (by omega)
    simp(config:={contextual:=true,maxSteps:=2000000,implicitDefEqProofs:=false})(disch:=first|omega|(simp only[Ze8,Ze7,List.length_map,List.length_set,List.length_append,List.length_cons,List.length_nil];first|done|omega))only[↓Zaa,↓Zab,↓Zac,↓Zad,↓Zae,↓Zaf,↓Zag,↓Zah,↓Zai,↓Zaj,↓Zak,↓Zal,↓Zam,↓Zan,↓Zao,↓Zap,↓Zaq,↓Zar,↓Zas,↓Zat,↓Zau,↓Zav,↓Zaw,↓Zax,↓Zay,↓Zaz,↓Za0,↓Za1,↓Za2,↓Za3,↓Za4,↓Za5,↓Za6,↓Za7,↓Za8,↓Za9,↓Zba,↓Zbb,↓Zbc,↓Zbd,↓Zbe,↓Zbf,↓Zbg,↓Zbh,↓Zbi,↓Zbj,↓Zbk,↓Zbl,↓Zbm,↓Zbn,↓Zbo,↓Zbp,↓Zbq,↓Zbr,↓Zbs,↓Zbt,↓Zbv,↓Zbw,↓Zbx,↓Zby,↓Zbz,↓Zb0,↓reduceIte,Zb1,Zb2,Zb3,Zb4,Zb5,Zb6,Zb7,Zb8,Zbx,Zb9,Zby,Zca,Zcb,Zcc,Zcd,Zce,Zcf,Zcg,Zch,Zci,Zcj,Zck,Zcl,Zcm,Zcn,Zco,Zcp,Zcq,Zcr,Zcs,Zct,Zcu,Zcv,Zcw,Zcx,Zcy,Zcz,Zc0,Zc1,Zc2,Zc3,Zc4,Zc5,Zc6,Zc7,Zc8,Zc9,Zda,Zdb,Zdc,Zdd,Zde,Zdf,Zdg,Zdh,Zdi,Zdj,Zdk,Zdl,Zdm,Zdn,Zdo,Zdp,Zdq,Zdr,Zds,Zdt,Zdu,Zdv,Zdw,Zdx,Zdy,Zdz,Zd0,Zd1,Zd2,Zd3,Zd4,Zd5,Zd6,Zd7,Zd8,Zd9,Zea,Zeb,Zec,Zed,Zee,Zef,Zeg,Zeh,Zei,Zej,Zek,Zel,Zem,Zen,Zeo,Zep,Zeq,Zer,Zes,Zet,Zeu,Zev,Zew,Zex,Zey,Zez,Ze0,Ze1,Ze2,Ze3,Ze4,Ze5,Ze6,Ze7,Ze8,Ze9,Zfa,Zfb,Zfc,Zfd,Zfe,Zff,Zfg,Zfh,Zfi,Zfj,Zfk,Zfl,Zfm,Zfn,Zfo,Zfp,Zfq,Zfr,Zfs,Zft,Zfu,Zfv,Zfw,Zfx,Zfy,Zfz,Zf0,Zf1,Zf2,Zf3,Zf4,Zf5,Zf6,Zf7,Zf8,Zf9,Zga,Zgb,Zgc,Zgd,Zge,Zgf,Zgg,Zgh,Zgi,Zgj,Zgk,Zgl,Zgm,Zgn,Zgo,Zgp,Zgq,Zgr,Zgs,Zgt,Zgu,Zgv,Zgw,Zgx,Zgy,Zgz,Zg0,Zg1,Zg2,Zg3,Zg4,Zg5,Zg6,Zg7,Zg8,Zg9,Zha,Zhb,Zhc,Zhd,Zhe,Zhf,Zhg,Zhh,Zhi,Zhj,Zhk,Zhl,Zhm,Zhn,Zho,Zhp,Zhq,Zhr,Zhs,Zht,Zhu,Zhv,Zhw,Zhx,Zhy,Zhz,Zh0,Zh1,Zh2,Zh3,Zbv,Zh4,Zbw,Zh5,Zh6,Zbz,Zb0,Nat.reduceBEq,reduceIte,Nat.reduceEqDiff,Nat.reduceAdd,Nat.reduceMul,Nat.reduceSub,Nat.reduceLT,Nat.reduceLeDiff,reduceCtorEq,eq_self,ne_eq,ge_iff_le,gt_iff_lt,ite_self,implies_true,Int.reduceToNat,Int.reduceNeg,Zk,m_laws_FnWormsDie, hbig.wa]
    refine (drawLifeOf_w H h cv hcode).mono fun v h1 l1 hv => ?_
    obtain ⟨⟨w, s, rfl, wr, sr⟩, rfl, rfl⟩ := hv
    have c1 := iLifeOf_pu H w wr s
    have c2 := sLifeOf_pu H w wr s
    have c3 := iDeath_pu H w wr s
    have c4 := sDeath_pu H w wr s
    have c5 := iTrack_w H w wr s
    have c6 := sTrack_w H w wr s
    have c7 := iMeals_pu H w wr s
    have c8 := sMeals_pu H w wr s
    have c9 := iEatLine_pu H w wr s
    have c10 := sEatLine_pu H w wr s
    have hev := eatLine_some (w := w) (s := s)
    have hbt : ∀ e, eatLine w s = some e → _ := fun e he => eatLine_bite he
    rw [optV_eq] at c9 c10
    have hdv : (if (w.good && isTaste s) = true then (lifeOf w s).1.v else .agg ⟨zeroW⟩) = (if (w.good && isTaste s) = true then (lifeOf w s).1 else zeroWm).v := by split <;> rfl
    rw [hdv] at c3 c4
    have hok0 : (w.good && isTaste s) = (w.good && isTaste s) := rfl
    have hLf := fun (g : w.Good) => life_facts g s

    obtain ⟨ok, hok⟩ : ∃ ok, ok = (w.good && isTaste s) := ⟨_, rfl⟩
    obtain ⟨D, hD⟩ : ∃ D, D = (if (w.good && isTaste s) = true then (lifeOf w s).1 else zeroWm) := ⟨_, rfl⟩
    obtain ⟨E, hE⟩ : ∃ E, E = (eatLine w s).getD zeroWm := ⟨_, rfl⟩
    obtain ⟨sv, hsv⟩ : ∃ sv, sv = (eatLine w s).isSome := ⟨_, rfl⟩
    obtain ⟨life, hlife⟩ : ∃ life, life = (if (w.good && isTaste s) = true then ((lifeOf w s).2.1.length : Int) else 0) := ⟨_, rfl⟩
    obtain ⟨meals, hmeals⟩ : ∃ meals, meals = (if (w.good && isTaste s) = true then (lifeOf w s).2.1 else []) := ⟨_, rfl⟩
    rw [← hlife, ← hok] at c1 c2
    rw [← hD, ← hok] at c3 c4
    rw [← hmeals, ← hok] at c7 c8
    rw [← hE, ← hsv] at c9 c10
    rw [← hok] at c5 c6
    have hsv' : sv = (ok && decide (0 < life)) := by rw [hsv, hev, hok, hlife]

    have rest : ∀ (t' : Tm) (hh' : Heap) (v1 v2 : Value) (b5 b11 b13 b23 b25 : Nat), Law1 H h1 hh' h1.length t' mv w D E s meals life ok sv v1 v2 b5 b11 b13 b23 b25 → acall M n_laws_dSame [v1, v2] hh' = some (.bool true, hh', hh'.length) →
        (ok = true → ∃ bt g r, v1 = .slice (some ⟨bt, 0, g⟩) ((lifeOf w s).2.2.length + 1) 1 ∧ hh'[bt]? = some (.cells ((nodeV w :: (lifeOf w s).2.2).map iv) g r)) →
        @Wc M m_laws_FnWormsDie_c1 t' hh' h1.length ⟨retK h1 m_laws_FnWormsDie.results (LawK h1)⟩ := by
      intro t' hh' v1 v2 b5 b11 b13 b23 b25 S hsame htr
      refine law_c1 H S wr hok hsame hsv' _ fun t2 S2 => ?_
      refine law_c2 H S2 wr hok (fun ht => ?_) _ fun t3 hh3 l3 hl3 S3 => ?_
      · have ht' := hok.symm.trans ht
        obtain ⟨bt, g, r, e1, e2⟩ := htr ht
        refine ⟨by rw [hD, if_pos ht'], by rw [hlife, if_pos ht'], by rw [hmeals, if_pos ht'], bt, g, r, e1, e2⟩
      · refine law_c3 H S3 hl3 wr (fun ht => ?_) _ fun t4 hh4 l4 hl4 hlen4 hm4 a1 a2 => law_c4 H hl4 hlen4 hm4 a1 a2
        cases he : eatLine w s with
        | none => rw [hsv, he] at ht; cases ht
        | some e =>
          obtain ⟨gw, hta, c, hc1, hc2⟩ := hbt e he
          have ht' : (w.good && isTaste s) = true := by rw [Wm.good_t gw, hta]; rfl
          exact ⟨by rw [hlife, if_pos ht'], gw, hta, c, hc1, by rw [hE, he]; exact hc2⟩
    have hlb : ok = true → (lifeOf w s).2.2.length ≤ 1000 := fun ht => by
      rw [hok, Bool.and_eq_true] at ht
      have := lifeOf_len (good_of ht.1) s
      omega
    generalize hres : m_laws_FnWormsDie.results = rs at *
    clear hev hbt hdv hok0 hLf hD hE hsv hlife hmeals hsv' hbig hcode hc hmv hb
    simp only [Wm.v_def] at c1 c2 c3 c4 c5 c6 c7 c8 c9 c10
    simp(config:={contextual:=true,maxSteps:=2000000,implicitDefEqProofs:=false})(disch:=first|omega|(simp only[Ze8,Ze7,List.length_map,List.length_set,List.length_append,List.length_cons,List.length_nil];first|done|omega))only[↓Zaa,↓Zab,↓Zac,↓Zad,↓Zae,↓Zaf,↓Zag,↓Zah,↓Zai,↓Zaj,↓Zak,↓Zal,↓Zam,↓Zan,↓Zao,↓Zap,↓Zaq,↓Zar,↓Zas,↓Zat,↓Zau,↓Zav,↓Zaw,↓Zax,↓Zay,↓Zaz,↓Za0,↓Za1,↓Za2,↓Za3,↓Za4,↓Za5,↓Za6,↓Za7,↓Za8,↓Za9,↓Zba,↓Zbb,↓Zbc,↓Zbd,↓Zbe,↓Zbf,↓Zbg,↓Zbh,↓Zbi,↓Zbj,↓Zbk,↓Zbl,↓Zbm,↓Zbn,↓Zbo,↓Zbp,↓Zbq,↓Zbr,↓Zbs,↓Zbt,↓Zbv,↓Zbw,↓Zbx,↓Zby,↓Zbz,↓Zb0,↓reduceIte,Zb1,Zb2,Zb3,Zb4,Zb5,Zb6,Zb7,Zb8,Zbx,Zb9,Zby,Zca,Zcb,Zcc,Zcd,Zce,Zcf,Zcg,Zch,Zci,Zcj,Zck,Zcl,Zcm,Zcn,Zco,Zcp,Zcq,Zcr,Zcs,Zct,Zcu,Zcv,Zcw,Zcx,Zcy,Zcz,Zc0,Zc1,Zc2,Zc3,Zc4,Zc5,Zc6,Zc7,Zc8,Zc9,Zda,Zdb,Zdc,Zdd,Zde,Zdf,Zdg,Zdh,Zdi,Zdj,Zdk,Zdl,Zdm,Zdn,Zdo,Zdp,Zdq,Zdr,Zds,Zdt,Zdu,Zdv,Zdw,Zdx,Zdy,Zdz,Zd0,Zd1,Zd2,Zd3,Zd4,Zd5,Zd6,Zd7,Zd8,Zd9,Zea,Zeb,Zec,Zed,Zee,Zef,Zeg,Zeh,Zei,Zej,Zek,Zel,Zem,Zen,Zeo,Zep,Zeq,Zer,Zes,Zet,Zeu,Zev,Zew,Zex,Zey,Zez,Ze0,Ze1,Ze2,Ze3,Ze4,Ze5,Ze6,Ze7,Ze8,Ze9,Zfa,Zfb,Zfc,Zfd,Zfe,Zff,Zfg,Zfh,Zfi,Zfj,Zfk,Zfl,Zfm,Zfn,Zfo,Zfp,Zfq,Zfr,Zfs,Zft,Zfu,Zfv,Zfw,Zfx,Zfy,Zfz,Zf0,Zf1,Zf2,Zf3,Zf4,Zf5,Zf6,Zf7,Zf8,Zf9,Zga,Zgb,Zgc,Zgd,Zge,Zgf,Zgg,Zgh,Zgi,Zgj,Zgk,Zgl,Zgm,Zgn,Zgo,Zgp,Zgq,Zgr,Zgs,Zgt,Zgu,Zgv,Zgw,Zgx,Zgy,Zgz,Zg0,Zg1,Zg2,Zg3,Zg4,Zg5,Zg6,Zg7,Zg8,Zg9,Zha,Zhb,Zhc,Zhd,Zhe,Zhf,Zhg,Zhh,Zhi,Zhj,Zhk,Zhl,Zhm,Zhn,Zho,Zhp,Zhq,Zhr,Zhs,Zht,Zhu,Zhv,Zhw,Zhx,Zhy,Zhz,Zh0,Zh1,Zh2,Zh3,Zbv,Zh4,Zbw,Zh5,Zh6,Zbz,Zb0,Nat.reduceBEq,reduceIte,Nat.reduceEqDiff,Nat.reduceAdd,Nat.reduceMul,Nat.reduceSub,Nat.reduceLT,Nat.reduceLeDiff,reduceCtorEq,eq_self,ne_eq,ge_iff_le,gt_iff_lt,ite_self,implies_true,Int.reduceToNat,Int.reduceNeg,Zk,Wm.v_def, c1.wa, c2.wa, c3.wa, c4.wa]
    have z5 : (h1 ++ [AObj.cells w.cells none true] ++ [AObj.cells D.cells none true] ++ [AObj.cells D.cells none true])[h1.length]? = some (.cells w.cells none true) := by
      rw [Zev (by simp), Zev (by simp), Zeu rfl]
    have z11 : (h1 ++ [AObj.cells w.cells none true] ++ [AObj.cells D.cells none true] ++ [AObj.cells D.cells none true])[h1.length + 1]? = some (.cells D.cells none true) := by
      rw [Zev (by simp), Zeu (by simp)]
    have z13 : (h1 ++ [AObj.cells w.cells none true] ++ [AObj.cells D.cells none true] ++ [AObj.cells D.cells none true])[h1.length + 1 + 1]? = some (.cells D.cells none true) := by
      rw [Zeu (by simp)]
    have zlen : (h1 ++ [AObj.cells w.cells none true] ++ [AObj.cells D.cells none true] ++ [AObj.cells D.cells none true]).length = h1.length + 3 := by simp
    have zm : CodeIn (h1 ++ [AObj.cells w.cells none true] ++ [AObj.cells D.cells none true] ++ [AObj.cells D.cells none true]) mv := ((hmore.app _).app _).app _
    have zold : ∀ b, b < h1.length → (h1 ++ [AObj.cells w.cells none true] ++ [AObj.cells D.cells none true] ++ [AObj.cells D.cells none true])[b]? = h1[b]? := fun b hb => by
      rw [Zev (by simp; omega), Zev (by simp; omega), Zev hb]
    simp only [Wm.cells_def] at z5 z11 z13 zlen zm zold
    generalize h1 ++ [AObj.cells [.int .i64 w.W, .int .i64 w.H, .string (str w.R), .string (str w.D), .int .i64 w.X, .int .i64 w.Y, .int .i64 w.Way] none true] ++ [AObj.cells [.int .i64 D.W, .int .i64 D.H, .string (str D.R), .string (str D.D), .int .i64 D.X, .int .i64 D.Y, .int .i64 D.Way] none true] ++ [AObj.cells [.int .i64 D.W, .int .i64 D.H, .string (str D.R), .string (str D.D), .int .i64 D.X, .int .i64 D.Y, .int .i64 D.Way] none true] = g at *
    clear c1 c2 c3 c4
    have hlen1 := (lifeOf w s).2.2.length
    have dsame : ∀ (hh : Heap) (b b' : Nat) (g1 g2 : Option Nat) (r r' : Bool), hh[b]? = some (.cells ((nodeV w :: (lifeOf w s).2.2).map iv) g1 r) → hh[b']? = some (.cells ((nodeV w :: (lifeOf w s).2.2).map iv) g2 r') → (nodeV w :: (lifeOf w s).2.2).length ≤ 1000000 →
        acall M n_laws_dSame [.slice (some ⟨b, 0, g1⟩) ((lifeOf w s).2.2.length + 1) 1, .slice (some ⟨b', 0, g2⟩) ((lifeOf w s).2.2.length + 1) 1] hh = some (.bool true, hh, hh.length) := fun hh b b' g1 g2 r r' k1 k2 k3 => by
      have := dSame_w H (nodeV w :: (lifeOf w s).2.2) (nodeV w :: (lifeOf w s).2.2) k3 k3 hh b b' g1 g2 r r' k1 k2
      rw [decide_eq_true rfl] at this
      exact this
    refine (c5 _).mono fun v h2 l2 hv => ?_
    unfold TrackK at hv c6
    cases ok
    · rw [if_neg (by simp)] at hv
      obtain ⟨rfl, rfl, rfl⟩ := hv
      simp(config:={contextual:=true,maxSteps:=2000000,implicitDefEqProofs:=false})(disch:=first|omega|(simp only[Ze8,Ze7,List.length_map,List.length_set,List.length_append,List.length_cons,List.length_nil];first|done|omega))only[↓Zaa,↓Zab,↓Zac,↓Zad,↓Zae,↓Zaf,↓Zag,↓Zah,↓Zai,↓Zaj,↓Zak,↓Zal,↓Zam,↓Zan,↓Zao,↓Zap,↓Zaq,↓Zar,↓Zas,↓Zat,↓Zau,↓Zav,↓Zaw,↓Zax,↓Zay,↓Zaz,↓Za0,↓Za1,↓Za2,↓Za3,↓Za4,↓Za5,↓Za6,↓Za7,↓Za8,↓Za9,↓Zba,↓Zbb,↓Zbc,↓Zbd,↓Zbe,↓Zbf,↓Zbg,↓Zbh,↓Zbi,↓Zbj,↓Zbk,↓Zbl,↓Zbm,↓Zbn,↓Zbo,↓Zbp,↓Zbq,↓Zbr,↓Zbs,↓Zbt,↓Zbv,↓Zbw,↓Zbx,↓Zby,↓Zbz,↓Zb0,↓reduceIte,Zb1,Zb2,Zb3,Zb4,Zb5,Zb6,Zb7,Zb8,Zbx,Zb9,Zby,Zca,Zcb,Zcc,Zcd,Zce,Zcf,Zcg,Zch,Zci,Zcj,Zck,Zcl,Zcm,Zcn,Zco,Zcp,Zcq,Zcr,Zcs,Zct,Zcu,Zcv,Zcw,Zcx,Zcy,Zcz,Zc0,Zc1,Zc2,Zc3,Zc4,Zc5,Zc6,Zc7,Zc8,Zc9,Zda,Zdb,Zdc,Zdd,Zde,Zdf,Zdg,Zdh,Zdi,Zdj,Zdk,Zdl,Zdm,Zdn,Zdo,Zdp,Zdq,Zdr,Zds,Zdt,Zdu,Zdv,Zdw,Zdx,Zdy,Zdz,Zd0,Zd1,Zd2,Zd3,Zd4,Zd5,Zd6,Zd7,Zd8,Zd9,Zea,Zeb,Zec,Zed,Zee,Zef,Zeg,Zeh,Zei,Zej,Zek,Zel,Zem,Zen,Zeo,Zep,Zeq,Zer,Zes,Zet,Zeu,Zev,Zew,Zex,Zey,Zez,Ze0,Ze1,Ze2,Ze3,Ze4,Ze5,Ze6,Ze7,Ze8,Ze9,Zfa,Zfb,Zfc,Zfd,Zfe,Zff,Zfg,Zfh,Zfi,Zfj,Zfk,Zfl,Zfm,Zfn,Zfo,Zfp,Zfq,Zfr,Zfs,Zft,Zfu,Zfv,Zfw,Zfx,Zfy,Zfz,Zf0,Zf1,Zf2,Zf3,Zf4,Zf5,Zf6,Zf7,Zf8,Zf9,Zga,Zgb,Zgc,Zgd,Zge,Zgf,Zgg,Zgh,Zgi,Zgj,Zgk,Zgl,Zgm,Zgn,Zgo,Zgp,Zgq,Zgr,Zgs,Zgt,Zgu,Zgv,Zgw,Zgx,Zgy,Zgz,Zg0,Zg1,Zg2,Zg3,Zg4,Zg5,Zg6,Zg7,Zg8,Zg9,Zha,Zhb,Zhc,Zhd,Zhe,Zhf,Zhg,Zhh,Zhi,Zhj,Zhk,Zhl,Zhm,Zhn,Zho,Zhp,Zhq,Zhr,Zhs,Zht,Zhu,Zhv,Zhw,Zhx,Zhy,Zhz,Zh0,Zh1,Zh2,Zh3,Zbv,Zh4,Zbw,Zh5,Zh6,Zbz,Zb0,Nat.reduceBEq,reduceIte,Nat.reduceEqDiff,Nat.reduceAdd,Nat.reduceMul,Nat.reduceSub,Nat.reduceLT,Nat.reduceLeDiff,reduceCtorEq,eq_self,ne_eq,ge_iff_le,gt_iff_lt,ite_self,implies_true,Int.reduceToNat,Int.reduceNeg,Zk,z5]
      refine (c6 _).mono fun v h3 l3 hv => ?_
      rw [if_neg (by simp)] at hv
      obtain ⟨rfl, rfl, rfl⟩ := hv
      simp(config:={contextual:=true,maxSteps:=2000000,implicitDefEqProofs:=false})(disch:=first|omega|(simp only[Ze8,Ze7,List.length_map,List.length_set,List.length_append,List.length_cons,List.length_nil];first|done|omega))only[↓Zaa,↓Zab,↓Zac,↓Zad,↓Zae,↓Zaf,↓Zag,↓Zah,↓Zai,↓Zaj,↓Zak,↓Zal,↓Zam,↓Zan,↓Zao,↓Zap,↓Zaq,↓Zar,↓Zas,↓Zat,↓Zau,↓Zav,↓Zaw,↓Zax,↓Zay,↓Zaz,↓Za0,↓Za1,↓Za2,↓Za3,↓Za4,↓Za5,↓Za6,↓Za7,↓Za8,↓Za9,↓Zba,↓Zbb,↓Zbc,↓Zbd,↓Zbe,↓Zbf,↓Zbg,↓Zbh,↓Zbi,↓Zbj,↓Zbk,↓Zbl,↓Zbm,↓Zbn,↓Zbo,↓Zbp,↓Zbq,↓Zbr,↓Zbs,↓Zbt,↓Zbv,↓Zbw,↓Zbx,↓Zby,↓Zbz,↓Zb0,↓reduceIte,Zb1,Zb2,Zb3,Zb4,Zb5,Zb6,Zb7,Zb8,Zbx,Zb9,Zby,Zca,Zcb,Zcc,Zcd,Zce,Zcf,Zcg,Zch,Zci,Zcj,Zck,Zcl,Zcm,Zcn,Zco,Zcp,Zcq,Zcr,Zcs,Zct,Zcu,Zcv,Zcw,Zcx,Zcy,Zcz,Zc0,Zc1,Zc2,Zc3,Zc4,Zc5,Zc6,Zc7,Zc8,Zc9,Zda,Zdb,Zdc,Zdd,Zde,Zdf,Zdg,Zdh,Zdi,Zdj,Zdk,Zdl,Zdm,Zdn,Zdo,Zdp,Zdq,Zdr,Zds,Zdt,Zdu,Zdv,Zdw,Zdx,Zdy,Zdz,Zd0,Zd1,Zd2,Zd3,Zd4,Zd5,Zd6,Zd7,Zd8,Zd9,Zea,Zeb,Zec,Zed,Zee,Zef,Zeg,Zeh,Zei,Zej,Zek,Zel,Zem,Zen,Zeo,Zep,Zeq,Zer,Zes,Zet,Zeu,Zev,Zew,Zex,Zey,Zez,Ze0,Ze1,Ze2,Ze3,Ze4,Ze5,Ze6,Ze7,Ze8,Ze9,Zfa,Zfb,Zfc,Zfd,Zfe,Zff,Zfg,Zfh,Zfi,Zfj,Zfk,Zfl,Zfm,Zfn,Zfo,Zfp,Zfq,Zfr,Zfs,Zft,Zfu,Zfv,Zfw,Zfx,Zfy,Zfz,Zf0,Zf1,Zf2,Zf3,Zf4,Zf5,Zf6,Zf7,Zf8,Zf9,Zga,Zgb,Zgc,Zgd,Zge,Zgf,Zgg,Zgh,Zgi,Zgj,Zgk,Zgl,Zgm,Zgn,Zgo,Zgp,Zgq,Zgr,Zgs,Zgt,Zgu,Zgv,Zgw,Zgx,Zgy,Zgz,Zg0,Zg1,Zg2,Zg3,Zg4,Zg5,Zg6,Zg7,Zg8,Zg9,Zha,Zhb,Zhc,Zhd,Zhe,Zhf,Zhg,Zhh,Zhi,Zhj,Zhk,Zhl,Zhm,Zhn,Zho,Zhp,Zhq,Zhr,Zhs,Zht,Zhu,Zhv,Zhw,Zhx,Zhy,Zhz,Zh0,Zh1,Zh2,Zh3,Zbv,Zh4,Zbw,Zh5,Zh6,Zbz,Zb0,Nat.reduceBEq,reduceIte,Nat.reduceEqDiff,Nat.reduceAdd,Nat.reduceMul,Nat.reduceSub,Nat.reduceLT,Nat.reduceLeDiff,reduceCtorEq,eq_self,ne_eq,ge_iff_le,gt_iff_lt,ite_self,implies_true,Int.reduceToNat,Int.reduceNeg,Zk,Wm.v_def, c7.wa, c8.wa, c9.wa, c10.wa, z5]
      have hb5 := (List.getElem?_eq_some_iff.1 z5).1
      have hb11 := (List.getElem?_eq_some_iff.1 z11).1
      have hb13 := (List.getElem?_eq_some_iff.1 z13).1
      refine rest _ _ (.slice none 0 0) (.slice none 0 0) h1.length (h1.length + 1) (h1.length + 1 + 1) h3.length (h3.length + 1) ⟨rfl, by simp; omega, (zm.app _).app _, fun b hb => by rw [Zev (by simp; omega), Zev (by omega), zold b hb], ?_, ?_, ?_, ?_, ?_, ?_, ?_, ?_, ?_, ?_, ?_, ?_, ?_, ?_, ?_, ?_, ?_, ?_, ?_, ?_, ?_, ?_, ?_, ?_, ?_, ?_, ?_, ?_, ?_⟩ (dSame_nil H _) (fun h => by cases h)
      all_goals first
        | (simp only [Zby, Zcf, Zbz, Zb0, Nat.reduceBEq]; done)
        | (rw [Zev (by simp; omega), Zev (by omega)]; first | exact z5 | exact z11 | exact z13)
        | (rw [Zev (by simp), Zeu rfl]; rfl)
        | (rw [Zeu (by simp)]; rfl)
    · rw [if_pos rfl] at hv
      obtain ⟨g1, b1, rfl, k1, k2, k3, k4, rfl⟩ := hv
      have y5 := (k3 _ (by omega)).trans z5
      have y11 := (k3 _ (by omega)).trans z11
      have y13 := (k3 _ (by omega)).trans z13
      simp(config:={contextual:=true,maxSteps:=2000000,implicitDefEqProofs:=false})(disch:=first|omega|(simp only[Ze8,Ze7,List.length_map,List.length_set,List.length_append,List.length_cons,List.length_nil];first|done|omega))only[↓Zaa,↓Zab,↓Zac,↓Zad,↓Zae,↓Zaf,↓Zag,↓Zah,↓Zai,↓Zaj,↓Zak,↓Zal,↓Zam,↓Zan,↓Zao,↓Zap,↓Zaq,↓Zar,↓Zas,↓Zat,↓Zau,↓Zav,↓Zaw,↓Zax,↓Zay,↓Zaz,↓Za0,↓Za1,↓Za2,↓Za3,↓Za4,↓Za5,↓Za6,↓Za7,↓Za8,↓Za9,↓Zba,↓Zbb,↓Zbc,↓Zbd,↓Zbe,↓Zbf,↓Zbg,↓Zbh,↓Zbi,↓Zbj,↓Zbk,↓Zbl,↓Zbm,↓Zbn,↓Zbo,↓Zbp,↓Zbq,↓Zbr,↓Zbs,↓Zbt,↓Zbv,↓Zbw,↓Zbx,↓Zby,↓Zbz,↓Zb0,↓reduceIte,Zb1,Zb2,Zb3,Zb4,Zb5,Zb6,Zb7,Zb8,Zbx,Zb9,Zby,Zca,Zcb,Zcc,Zcd,Zce,Zcf,Zcg,Zch,Zci,Zcj,Zck,Zcl,Zcm,Zcn,Zco,Zcp,Zcq,Zcr,Zcs,Zct,Zcu,Zcv,Zcw,Zcx,Zcy,Zcz,Zc0,Zc1,Zc2,Zc3,Zc4,Zc5,Zc6,Zc7,Zc8,Zc9,Zda,Zdb,Zdc,Zdd,Zde,Zdf,Zdg,Zdh,Zdi,Zdj,Zdk,Zdl,Zdm,Zdn,Zdo,Zdp,Zdq,Zdr,Zds,Zdt,Zdu,Zdv,Zdw,Zdx,Zdy,Zdz,Zd0,Zd1,Zd2,Zd3,Zd4,Zd5,Zd6,Zd7,Zd8,Zd9,Zea,Zeb,Zec,Zed,Zee,Zef,Zeg,Zeh,Zei,Zej,Zek,Zel,Zem,Zen,Zeo,Zep,Zeq,Zer,Zes,Zet,Zeu,Zev,Zew,Zex,Zey,Zez,Ze0,Ze1,Ze2,Ze3,Ze4,Ze5,Ze6,Ze7,Ze8,Ze9,Zfa,Zfb,Zfc,Zfd,Zfe,Zff,Zfg,Zfh,Zfi,Zfj,Zfk,Zfl,Zfm,Zfn,Zfo,Zfp,Zfq,Zfr,Zfs,Zft,Zfu,Zfv,Zfw,Zfx,Zfy,Zfz,Zf0,Zf1,Zf2,Zf3,Zf4,Zf5,Zf6,Zf7,Zf8,Zf9,Zga,Zgb,Zgc,Zgd,Zge,Zgf,Zgg,Zgh,Zgi,Zgj,Zgk,Zgl,Zgm,Zgn,Zgo,Zgp,Zgq,Zgr,Zgs,Zgt,Zgu,Zgv,Zgw,Zgx,Zgy,Zgz,Zg0,Zg1,Zg2,Zg3,Zg4,Zg5,Zg6,Zg7,Zg8,Zg9,Zha,Zhb,Zhc,Zhd,Zhe,Zhf,Zhg,Zhh,Zhi,Zhj,Zhk,Zhl,Zhm,Zhn,Zho,Zhp,Zhq,Zhr,Zhs,Zht,Zhu,Zhv,Zhw,Zhx,Zhy,Zhz,Zh0,Zh1,Zh2,Zh3,Zbv,Zh4,Zbw,Zh5,Zh6,Zbz,Zb0,Nat.reduceBEq,reduceIte,Nat.reduceEqDiff,Nat.reduceAdd,Nat.reduceMul,Nat.reduceSub,Nat.reduceLT,Nat.reduceLeDiff,reduceCtorEq,eq_self,ne_eq,ge_iff_le,gt_iff_lt,ite_self,implies_true,Int.reduceToNat,Int.reduceNeg,Zk,y5]
      refine (c6 _).mono fun v h3 l3 hv => ?_
      rw [if_pos rfl] at hv
      obtain ⟨g2, b2, rfl, m1, m2, m3, m4, rfl⟩ := hv
      have x5 := (m3 _ (by omega)).trans y5
      have x11 := (m3 _ (by omega)).trans y11
      have x13 := (m3 _ (by omega)).trans y13
      have xt := (m3 _ (List.getElem?_eq_some_iff.1 k2).1).trans k2
      have hbt := (List.getElem?_eq_some_iff.1 k2).1
      have hbt2 := (List.getElem?_eq_some_iff.1 m2).1
      have xm : CodeIn h3 mv := by
        rcases zm with rfl | ⟨cb, l, r, rfl, q1, q2⟩
        · exact .inl rfl
        · have := (List.getElem?_eq_some_iff.1 q1).1
          exact .inr ⟨cb, l, r, rfl, by rw [m3 _ (by omega), k3 _ this]; exact q1, q2⟩
      simp(config:={contextual:=true,maxSteps:=2000000,implicitDefEqProofs:=false})(disch:=first|omega|(simp only[Ze8,Ze7,List.length_map,List.length_set,List.length_append,List.length_cons,List.length_nil];first|done|omega))only[↓Zaa,↓Zab,↓Zac,↓Zad,↓Zae,↓Zaf,↓Zag,↓Zah,↓Zai,↓Zaj,↓Zak,↓Zal,↓Zam,↓Zan,↓Zao,↓Zap,↓Zaq,↓Zar,↓Zas,↓Zat,↓Zau,↓Zav,↓Zaw,↓Zax,↓Zay,↓Zaz,↓Za0,↓Za1,↓Za2,↓Za3,↓Za4,↓Za5,↓Za6,↓Za7,↓Za8,↓Za9,↓Zba,↓Zbb,↓Zbc,↓Zbd,↓Zbe,↓Zbf,↓Zbg,↓Zbh,↓Zbi,↓Zbj,↓Zbk,↓Zbl,↓Zbm,↓Zbn,↓Zbo,↓Zbp,↓Zbq,↓Zbr,↓Zbs,↓Zbt,↓Zbv,↓Zbw,↓Zbx,↓Zby,↓Zbz,↓Zb0,↓reduceIte,Zb1,Zb2,Zb3,Zb4,Zb5,Zb6,Zb7,Zb8,Zbx,Zb9,Zby,Zca,Zcb,Zcc,Zcd,Zce,Zcf,Zcg,Zch,Zci,Zcj,Zck,Zcl,Zcm,Zcn,Zco,Zcp,Zcq,Zcr,Zcs,Zct,Zcu,Zcv,Zcw,Zcx,Zcy,Zcz,Zc0,Zc1,Zc2,Zc3,Zc4,Zc5,Zc6,Zc7,Zc8,Zc9,Zda,Zdb,Zdc,Zdd,Zde,Zdf,Zdg,Zdh,Zdi,Zdj,Zdk,Zdl,Zdm,Zdn,Zdo,Zdp,Zdq,Zdr,Zds,Zdt,Zdu,Zdv,Zdw,Zdx,Zdy,Zdz,Zd0,Zd1,Zd2,Zd3,Zd4,Zd5,Zd6,Zd7,Zd8,Zd9,Zea,Zeb,Zec,Zed,Zee,Zef,Zeg,Zeh,Zei,Zej,Zek,Zel,Zem,Zen,Zeo,Zep,Zeq,Zer,Zes,Zet,Zeu,Zev,Zew,Zex,Zey,Zez,Ze0,Ze1,Ze2,Ze3,Ze4,Ze5,Ze6,Ze7,Ze8,Ze9,Zfa,Zfb,Zfc,Zfd,Zfe,Zff,Zfg,Zfh,Zfi,Zfj,Zfk,Zfl,Zfm,Zfn,Zfo,Zfp,Zfq,Zfr,Zfs,Zft,Zfu,Zfv,Zfw,Zfx,Zfy,Zfz,Zf0,Zf1,Zf2,Zf3,Zf4,Zf5,Zf6,Zf7,Zf8,Zf9,Zga,Zgb,Zgc,Zgd,Zge,Zgf,Zgg,Zgh,Zgi,Zgj,Zgk,Zgl,Zgm,Zgn,Zgo,Zgp,Zgq,Zgr,Zgs,Zgt,Zgu,Zgv,Zgw,Zgx,Zgy,Zgz,Zg0,Zg1,Zg2,Zg3,Zg4,Zg5,Zg6,Zg7,Zg8,Zg9,Zha,Zhb,Zhc,Zhd,Zhe,Zhf,Zhg,Zhh,Zhi,Zhj,Zhk,Zhl,Zhm,Zhn,Zho,Zhp,Zhq,Zhr,Zhs,Zht,Zhu,Zhv,Zhw,Zhx,Zhy,Zhz,Zh0,Zh1,Zh2,Zh3,Zbv,Zh4,Zbw,Zh5,Zh6,Zbz,Zb0,Nat.reduceBEq,reduceIte,Nat.reduceEqDiff,Nat.reduceAdd,Nat.reduceMul,Nat.reduceSub,Nat.reduceLT,Nat.reduceLeDiff,reduceCtorEq,eq_self,ne_eq,ge_iff_le,gt_iff_lt,ite_self,implies_true,Int.reduceToNat,Int.reduceNeg,Zk,Wm.v_def, c7.wa, c8.wa, c9.wa, c10.wa, x5]
      refine rest _ _ (.slice (some ⟨b1, 0, g1⟩) ((lifeOf w s).2.2.length + 1) 1) (.slice (some ⟨b2, 0, g2⟩) ((lifeOf w s).2.2.length + 1) 1) h1.length (h1.length + 1) (h1.length + 1 + 1) h3.length (h3.length + 1) ⟨rfl, by simp; omega, (xm.app _).app _, fun b hb => by rw [Zev (by simp; omega), Zev (by omega), m3 b (by omega), k3 b (by omega), zold b hb], ?_, ?_, ?_, ?_, ?_, ?_, ?_, ?_, ?_, ?_, ?_, ?_, ?_, ?_, ?_, ?_, ?_, ?_, ?_, ?_, ?_, ?_, ?_, ?_, ?_, ?_, ?_, ?_, ?_⟩
        (dsame _ b1 b2 g1 g2 true true (by rw [Zev (by simp; omega), Zev (by omega)]; exact xt) (by rw [Zev (by simp; omega), Zev (by omega)]; exact m2) ?_) (fun h => ⟨b1, g1, true, rfl, by rw [Zev (by simp; omega), Zev (by omega)]; exact xt⟩)
      all_goals first
        | (simp only [Zby, Zcf, Zbz, Zb0, Nat.reduceBEq]; done)
        | (rw [Zev (by simp; omega), Zev (by omega)]; first | exact x5 | exact x11 | exact x13)
        | (rw [Zev (by simp), Zeu rfl]; rfl)
        | (rw [Zeu (by simp)]; rfl)
        | (have := hlb rfl; rw [List.length_cons]; omega)

end Go.AM
