/- A part of the proof: W3. -/
import Derived.Test.YtfaceobahodhmaaW2
set_option maxHeartbeats 4000000
set_option maxRecDepth 100000
namespace Go.AM
set_option linter.unusedVariables false
set_option linter.unusedSimpArgs false
variable {M : Prog}

def Ascii (l : List UInt8) : Prop := ∀ i, i < l.length → (l.getD i 0).toNat < 128

theorem decode_ascii {l : List UInt8} {i : Nat} (hi : i < l.length) (ha : (l.getD i 0).toNat < 128) : Utf8.decode (str l) i = ((l.getD i 0).toNat, 1) := by
  have hg : (str l).get! i = l.getD i 0 := by
    simp [str, ByteArray.get!, hi]
  unfold Utf8.decode
  simp only [Nat.add_zero, hg]
  rw [if_pos ha]

theorem drop_take_one {l : List UInt8} {i : Nat} (hi : i < l.length) : (l.take (i + 1)).drop i = [l.getD i 0] := by
  rw [List.drop_take, Nat.add_sub_cancel_left, List.drop_eq_getElem_cons hi, List.take_succ_cons, List.take_zero]
  simp [List.getD, hi]

def eatFrom (w : Wm) : List UInt8 → Option UInt8
  | [] => none
  | s :: r => if has w w.X w.Y ((w.Way + turn s) % 4) = true then some s else eatFrom w r

def bite (w : Wm) (s : UInt8) : Wm :=
  goW { setLine w w.X w.Y ((w.Way + turn s) % 4) 48 with Way := (w.Way + turn s) % 4 } ((w.Way + turn s) % 4) 1

theorem eat_drop {w : Wm} {l : List UInt8} {i : Nat} (hi : i < l.length) : eatFrom w (l.drop i) = if has w w.X w.Y ((w.Way + turn (l.getD i 0)) % 4) = true then some (l.getD i 0) else eatFrom w (l.drop (i + 1)) := by
  rw [List.drop_eq_getElem_cons hi, eatFrom]
  simp [List.getD, hi]

def wmEatI (w : Wm) (taste : List UInt8) (h : Heap) (b : Nat) (n : Nat) (t : Tm) (hh : Heap) (l : Nat) : Prop :=
  ∃ i : Nat, i ≤ taste.length ∧ n = taste.length - i ∧ hh = h ++ [.iter (str taste) i] ∧ l = h.length ∧ eatFrom w taste = eatFrom w (taste.drop i) ∧
    gt t 0 = some (.pointer (some ⟨b, 0, none⟩)) ∧ gt t 1 = some (.string (str taste)) ∧ gt t 8 = some (.pointer (some ⟨h.length, 0, none⟩))

theorem wmEat_w (hm : M n_spec_wmEat = some m_spec_wmEat) (hm1 : M n_spec_wmLine = some m_spec_wmLine) (hm2 : M n_spec_l1Mod = some m_spec_l1Mod) (hm3 : M n_spec_wmHas = some m_spec_wmHas) (hm4 : M n_spec_wmSet = some m_spec_wmSet)
    (hm5 : M n_spec_wmGo = some m_spec_wmGo) (hm6 : M n_spec_woTurn = some m_spec_woTurn) (w : Wm) (g : w.Good) (taste : List UInt8) (ha : Ascii taste) (hlen : taste.length ≤ 1000000) (h : Heap) (b : Nat) (hb : h[b]? = some (.cells w.cells none true)) :
    @Wa M n_spec_wmEat [.pointer (some ⟨b, 0, none⟩), .string (str taste)] h ⟨fun v h' l => match eatFrom w taste with
      | none => v = .string (str []) ∧ h' = h ∧ l = h.length
      | some s => v = .string (str [s]) ∧ (∃ i, h' = h.set b (.cells (bite w s).cells none true) ++ [.iter (str taste) i]) ∧ l = b⟩ := by
  refine Wa_of hm ?_
  have hbl : b < h.length := (List.getElem?_eq_some_iff.1 hb).1
  have gg := g.g
  have w1 := gg.w1; have w2 := gg.w2; have w3 := gg.h1; have w4 := gg.h2
  have x1 := g.x1; have x2 := g.x2; have y1 := g.y1; have y2 := g.y2; have a1 := g.a1; have a2 := g.a2
  have hb0 := hb
  rw [Wm.cells_def] at hb0
  simp(config:={contextual:=true,maxSteps:=2000000,implicitDefEqProofs:=false})(disch:=first|omega|(simp only[Ze8,Ze7,List.length_map,List.length_set,List.length_append,List.length_cons,List.length_nil];first|done|omega))only[↓Zaa,↓Zab,↓Zac,↓Zad,↓Zae,↓Zaf,↓Zag,↓Zah,↓Zai,↓Zaj,↓Zak,↓Zal,↓Zam,↓Zan,↓Zao,↓Zap,↓Zaq,↓Zar,↓Zas,↓Zat,↓Zau,↓Zav,↓Zaw,↓Zax,↓Zay,↓Zaz,↓Za0,↓Za1,↓Za2,↓Za3,↓Za4,↓Za5,↓Za6,↓Za7,↓Za8,↓Za9,↓Zba,↓Zbb,↓Zbc,↓Zbd,↓Zbe,↓Zbf,↓Zbg,↓Zbh,↓Zbi,↓Zbj,↓Zbk,↓Zbl,↓Zbm,↓Zbn,↓Zbo,↓Zbp,↓Zbq,↓Zbr,↓Zbs,↓Zbt,↓Zbu,↓Zbv,↓Zbw,↓Zbx,↓Zby,↓Zbz,↓Zb0,↓reduceIte,Zb1,Zb2,Zb3,Zb4,Zb5,Zb6,Zb7,Zb8,Zbx,Zb9,Zby,Zca,Zcb,Zcc,Zcd,Zce,Zcf,Zcg,Zch,Zci,Zcj,Zck,Zcl,Zcm,Zcn,Zco,Zcp,Zcq,Zcr,Zcs,Zct,Zcu,Zcv,Zcw,Zcx,Zcy,Zcz,Zc0,Zc1,Zc2,Zc3,Zc4,Zc5,Zc6,Zc7,Zc8,Zc9,Zda,Zdb,Zdc,Zdd,Zde,Zdf,Zdg,Zdh,Zdi,Zdj,Zdk,Zdl,Zdm,Zdn,Zdo,Zdp,Zdq,Zdr,Zds,Zdt,Zdu,Zdv,Zdw,Zdx,Zdy,Zdz,Zd0,Zd1,Zd2,Zd3,Zd4,Zd5,Zd6,Zd7,Zd8,Zd9,Zea,Zeb,Zec,Zbu,Zed,Zee,Zef,Zeg,Zeh,Zei,Zej,Zek,Zel,Zem,Zen,Zeo,Zep,Zeq,Zer,Zes,Zet,Zeu,Zev,Zew,Zex,Zey,Zez,Ze0,Ze1,Ze2,Ze3,Ze4,Ze5,Ze6,Ze7,Ze8,Ze9,Zfa,Zfb,Zfc,Zfd,Zfe,Zff,Zfg,Zfh,Zfi,Zfj,Zfk,Zfl,Zfm,Zfn,Zfo,Zfp,Zfq,Zfr,Zfs,Zft,Zfu,Zfv,Zfw,Zfx,Zfy,Zfz,Zf0,Zf1,Zf2,Zf3,Zf4,Zf5,Zf6,Zf7,Zf8,Zf9,Zga,Zgb,Zgc,Zgd,Zge,Zgf,Zgg,Zgh,Zgi,Zgj,Zgk,Zgl,Zgm,Zgn,Zgo,Zgp,Zgq,Zgr,Zgs,Zgt,Zgu,Zgv,Zgw,Zgx,Zgy,Zgz,Zg0,Zg1,Zg2,Zg3,Zg4,Zg5,Zg6,Zg7,Zg8,Zg9,Zha,Zhb,Zhc,Zhd,Zhe,Zhf,Zhg,Zhh,Zhi,Zhj,Zhk,Zhl,Zhm,Zhn,Zho,Zhp,Zhq,Zhr,Zhs,Zht,Zhu,Zhv,Zhw,Zhx,Zhy,Zhz,Zh0,Zh1,Zh2,Zh3,Zbv,Zh4,Zbw,Zh5,Zh6,Zbz,Zb0,Nat.reduceBEq,reduceIte,Nat.reduceEqDiff,Nat.reduceAdd,Nat.reduceMul,Nat.reduceSub,Nat.reduceLT,Nat.reduceLeDiff,reduceCtorEq,eq_self,ne_eq,ge_iff_le,gt_iff_lt,ite_self,implies_true,Int.reduceToNat,Int.reduceNeg,Zk,m_spec_wmEat]
  refine Wc_loop (wmEatI w taste h b) taste.length ?_ ?_
  · refine ⟨0, by omega, by omega, rfl, rfl, rfl, ?_⟩
    simp(config:={contextual:=true,maxSteps:=2000000,implicitDefEqProofs:=false})(disch:=first|omega|(simp only[Ze8,Ze7,List.length_map,List.length_set,List.length_append,List.length_cons,List.length_nil];first|done|omega))only[↓Zaa,↓Zab,↓Zac,↓Zad,↓Zae,↓Zaf,↓Zag,↓Zah,↓Zai,↓Zaj,↓Zak,↓Zal,↓Zam,↓Zan,↓Zao,↓Zap,↓Zaq,↓Zar,↓Zas,↓Zat,↓Zau,↓Zav,↓Zaw,↓Zax,↓Zay,↓Zaz,↓Za0,↓Za1,↓Za2,↓Za3,↓Za4,↓Za5,↓Za6,↓Za7,↓Za8,↓Za9,↓Zba,↓Zbb,↓Zbc,↓Zbd,↓Zbe,↓Zbf,↓Zbg,↓Zbh,↓Zbi,↓Zbj,↓Zbk,↓Zbl,↓Zbm,↓Zbn,↓Zbo,↓Zbp,↓Zbq,↓Zbr,↓Zbs,↓Zbt,↓Zbu,↓Zbv,↓Zbw,↓Zbx,↓Zby,↓Zbz,↓Zb0,↓reduceIte,Zb1,Zb2,Zb3,Zb4,Zb5,Zb6,Zb7,Zb8,Zbx,Zb9,Zby,Zca,Zcb,Zcc,Zcd,Zce,Zcf,Zcg,Zch,Zci,Zcj,Zck,Zcl,Zcm,Zcn,Zco,Zcp,Zcq,Zcr,Zcs,Zct,Zcu,Zcv,Zcw,Zcx,Zcy,Zcz,Zc0,Zc1,Zc2,Zc3,Zc4,Zc5,Zc6,Zc7,Zc8,Zc9,Zda,Zdb,Zdc,Zdd,Zde,Zdf,Zdg,Zdh,Zdi,Zdj,Zdk,Zdl,Zdm,Zdn,Zdo,Zdp,Zdq,Zdr,Zds,Zdt,Zdu,Zdv,Zdw,Zdx,Zdy,Zdz,Zd0,Zd1,Zd2,Zd3,Zd4,Zd5,Zd6,Zd7,Zd8,Zd9,Zea,Zeb,Zec,Zbu,Zed,Zee,Zef,Zeg,Zeh,Zei,Zej,Zek,Zel,Zem,Zen,Zeo,Zep,Zeq,Zer,Zes,Zet,Zeu,Zev,Zew,Zex,Zey,Zez,Ze0,Ze1,Ze2,Ze3,Ze4,Ze5,Ze6,Ze7,Ze8,Ze9,Zfa,Zfb,Zfc,Zfd,Zfe,Zff,Zfg,Zfh,Zfi,Zfj,Zfk,Zfl,Zfm,Zfn,Zfo,Zfp,Zfq,Zfr,Zfs,Zft,Zfu,Zfv,Zfw,Zfx,Zfy,Zfz,Zf0,Zf1,Zf2,Zf3,Zf4,Zf5,Zf6,Zf7,Zf8,Zf9,Zga,Zgb,Zgc,Zgd,Zge,Zgf,Zgg,Zgh,Zgi,Zgj,Zgk,Zgl,Zgm,Zgn,Zgo,Zgp,Zgq,Zgr,Zgs,Zgt,Zgu,Zgv,Zgw,Zgx,Zgy,Zgz,Zg0,Zg1,Zg2,Zg3,Zg4,Zg5,Zg6,Zg7,Zg8,Zg9,Zha,Zhb,Zhc,Zhd,Zhe,Zhf,Zhg,Zhh,Zhi,Zhj,Zhk,Zhl,Zhm,Zhn,Zho,Zhp,Zhq,Zhr,Zhs,Zht,Zhu,Zhv,Zhw,Zhx,Zhy,Zhz,Zh0,Zh1,Zh2,Zh3,Zbv,Zh4,Zbw,Zh5,Zh6,Zbz,Zb0,Nat.reduceBEq,reduceIte,Nat.reduceEqDiff,Nat.reduceAdd,Nat.reduceMul,Nat.reduceSub,Nat.reduceLT,Nat.reduceLeDiff,reduceCtorEq,eq_self,ne_eq,ge_iff_le,gt_iff_lt,ite_self,implies_true,Int.reduceToNat,Int.reduceNeg,Zk,]
  · rintro n t hh l ⟨i, hi, rfl, rfl, rfl, he, t0, t1, t8⟩
    by_cases hlt : i < taste.length
    · have hd := decode_ascii hlt (ha i hlt)
      have tr := turn_range (taste.getD i 0)
      have hh := wmHas_pu hm3 hm1 hm2 w gg w.X w.Y ((w.Way + turn (taste.getD i 0)) % 4) x1 x2 y1 y2
      simp only [Wm.v_def] at hh
      rw [eat_drop hlt] at he
      by_cases hhas : has w w.X w.Y ((w.Way + turn (taste.getD i 0)) % 4) = true
      · rw [if_pos hhas] at he
        rw [hhas] at hh
        have hs := wmSet_eq hm4 hm1 hm2 w gg w.X w.Y ((w.Way + turn (taste.getD i 0)) % 4) x1 x2 y1 y2 48 (h ++ [.iter (str taste) (i + 1)]) b (by rw [Zev hbl]; exact hb)
        have sg : ∀ way, (setLine w w.X w.Y way 48).W = w.W ∧ (setLine w w.X w.Y way 48).H = w.H ∧ (setLine w w.X w.Y way 48).X = w.X ∧ (setLine w w.X w.Y way 48).Y = w.Y := fun way => by
          unfold setLine
          split <;> exact ⟨rfl, rfl, rfl, rfl⟩
        obtain ⟨s1, s2, s3, s4⟩ := sg ((w.Way + turn (taste.getD i 0)) % 4)
        generalize hv : setLine w w.X w.Y ((w.Way + turn (taste.getD i 0)) % 4) 48 = v at *
        have hgo := wmGo_eq hm5 hm2 { v with Way := (w.Way + turn (taste.getD i 0)) % 4 } ((w.Way + turn (taste.getD i 0)) % 4) 1 (by omega) ⟨by show 3 ≤ v.W; omega, by show v.W ≤ 6; omega⟩ ⟨by show 3 ≤ v.H; omega, by show v.H ≤ 6; omega⟩
          ⟨by show 0 ≤ v.X; omega, by show v.X < v.W; omega⟩ ⟨by show 0 ≤ v.Y; omega, by show v.Y < v.H; omega⟩ (h.set b (.cells { v with Way := (w.Way + turn (taste.getD i 0)) % 4 }.cells none true) ++ [.iter (str taste) (i + 1)]) b (by rw [Zev (by rw [Ze8]; exact hbl), Zew rfl hbl])
        simp only [Wm.cells_def] at hs hgo
        simp(config:={contextual:=true,maxSteps:=2000000,implicitDefEqProofs:=false})(disch:=first|omega|(simp only[Ze8,Ze7,List.length_map,List.length_set,List.length_append,List.length_cons,List.length_nil];first|done|omega))only[↓Zaa,↓Zab,↓Zac,↓Zad,↓Zae,↓Zaf,↓Zag,↓Zah,↓Zai,↓Zaj,↓Zak,↓Zal,↓Zam,↓Zan,↓Zao,↓Zap,↓Zaq,↓Zar,↓Zas,↓Zat,↓Zau,↓Zav,↓Zaw,↓Zax,↓Zay,↓Zaz,↓Za0,↓Za1,↓Za2,↓Za3,↓Za4,↓Za5,↓Za6,↓Za7,↓Za8,↓Za9,↓Zba,↓Zbb,↓Zbc,↓Zbd,↓Zbe,↓Zbf,↓Zbg,↓Zbh,↓Zbi,↓Zbj,↓Zbk,↓Zbl,↓Zbm,↓Zbn,↓Zbo,↓Zbp,↓Zbq,↓Zbr,↓Zbs,↓Zbt,↓Zbu,↓Zbv,↓Zbw,↓Zbx,↓Zby,↓Zbz,↓Zb0,↓reduceIte,Zb1,Zb2,Zb3,Zb4,Zb5,Zb6,Zb7,Zb8,Zbx,Zb9,Zby,Zca,Zcb,Zcc,Zcd,Zce,Zcf,Zcg,Zch,Zci,Zcj,Zck,Zcl,Zcm,Zcn,Zco,Zcp,Zcq,Zcr,Zcs,Zct,Zcu,Zcv,Zcw,Zcx,Zcy,Zcz,Zc0,Zc1,Zc2,Zc3,Zc4,Zc5,Zc6,Zc7,Zc8,Zc9,Zda,Zdb,Zdc,Zdd,Zde,Zdf,Zdg,Zdh,Zdi,Zdj,Zdk,Zdl,Zdm,Zdn,Zdo,Zdp,Zdq,Zdr,Zds,Zdt,Zdu,Zdv,Zdw,Zdx,Zdy,Zdz,Zd0,Zd1,Zd2,Zd3,Zd4,Zd5,Zd6,Zd7,Zd8,Zd9,Zea,Zeb,Zec,Zbu,Zed,Zee,Zef,Zeg,Zeh,Zei,Zej,Zek,Zel,Zem,Zen,Zeo,Zep,Zeq,Zer,Zes,Zet,Zeu,Zev,Zew,Zex,Zey,Zez,Ze0,Ze1,Ze2,Ze3,Ze4,Ze5,Ze6,Ze7,Ze8,Ze9,Zfa,Zfb,Zfc,Zfd,Zfe,Zff,Zfg,Zfh,Zfi,Zfj,Zfk,Zfl,Zfm,Zfn,Zfo,Zfp,Zfq,Zfr,Zfs,Zft,Zfu,Zfv,Zfw,Zfx,Zfy,Zfz,Zf0,Zf1,Zf2,Zf3,Zf4,Zf5,Zf6,Zf7,Zf8,Zf9,Zga,Zgb,Zgc,Zgd,Zge,Zgf,Zgg,Zgh,Zgi,Zgj,Zgk,Zgl,Zgm,Zgn,Zgo,Zgp,Zgq,Zgr,Zgs,Zgt,Zgu,Zgv,Zgw,Zgx,Zgy,Zgz,Zg0,Zg1,Zg2,Zg3,Zg4,Zg5,Zg6,Zg7,Zg8,Zg9,Zha,Zhb,Zhc,Zhd,Zhe,Zhf,Zhg,Zhh,Zhi,Zhj,Zhk,Zhl,Zhm,Zhn,Zho,Zhp,Zhq,Zhr,Zhs,Zht,Zhu,Zhv,Zhw,Zhx,Zhy,Zhz,Zh0,Zh1,Zh2,Zh3,Zbv,Zh4,Zbw,Zh5,Zh6,Zbz,Zb0,Nat.reduceBEq,reduceIte,Nat.reduceEqDiff,Nat.reduceAdd,Nat.reduceMul,Nat.reduceSub,Nat.reduceLT,Nat.reduceLeDiff,reduceCtorEq,eq_self,ne_eq,ge_iff_le,gt_iff_lt,ite_self,implies_true,Int.reduceToNat,Int.reduceNeg,Zk,t0, t1, t8, hd, hb0, (woTurn_pu hm6 _).wa, hh.wa, Wa_eq hs, m_spec_wmEat, he, Wa_eq hgo]
        refine ⟨?_, i + 1, ?_⟩
        · rw [show (((i : Int) + 1).toNat) = i + 1 by omega, drop_take_one hlt]
        · unfold bite
          rw [hv]
          rfl
      · rw [if_neg hhas] at he
        have hhas : has w w.X w.Y ((w.Way + turn (taste.getD i 0)) % 4) = false := by simpa using hhas
        rw [hhas] at hh
        simp(config:={contextual:=true,maxSteps:=2000000,implicitDefEqProofs:=false})(disch:=first|omega|(simp only[Ze8,Ze7,List.length_map,List.length_set,List.length_append,List.length_cons,List.length_nil];first|done|omega))only[↓Zaa,↓Zab,↓Zac,↓Zad,↓Zae,↓Zaf,↓Zag,↓Zah,↓Zai,↓Zaj,↓Zak,↓Zal,↓Zam,↓Zan,↓Zao,↓Zap,↓Zaq,↓Zar,↓Zas,↓Zat,↓Zau,↓Zav,↓Zaw,↓Zax,↓Zay,↓Zaz,↓Za0,↓Za1,↓Za2,↓Za3,↓Za4,↓Za5,↓Za6,↓Za7,↓Za8,↓Za9,↓Zba,↓Zbb,↓Zbc,↓Zbd,↓Zbe,↓Zbf,↓Zbg,↓Zbh,↓Zbi,↓Zbj,↓Zbk,↓Zbl,↓Zbm,↓Zbn,↓Zbo,↓Zbp,↓Zbq,↓Zbr,↓Zbs,↓Zbt,↓Zbu,↓Zbv,↓Zbw,↓Zbx,↓Zby,↓Zbz,↓Zb0,↓reduceIte,Zb1,Zb2,Zb3,Zb4,Zb5,Zb6,Zb7,Zb8,Zbx,Zb9,Zby,Zca,Zcb,Zcc,Zcd,Zce,Zcf,Zcg,Zch,Zci,Zcj,Zck,Zcl,Zcm,Zcn,Zco,Zcp,Zcq,Zcr,Zcs,Zct,Zcu,Zcv,Zcw,Zcx,Zcy,Zcz,Zc0,Zc1,Zc2,Zc3,Zc4,Zc5,Zc6,Zc7,Zc8,Zc9,Zda,Zdb,Zdc,Zdd,Zde,Zdf,Zdg,Zdh,Zdi,Zdj,Zdk,Zdl,Zdm,Zdn,Zdo,Zdp,Zdq,Zdr,Zds,Zdt,Zdu,Zdv,Zdw,Zdx,Zdy,Zdz,Zd0,Zd1,Zd2,Zd3,Zd4,Zd5,Zd6,Zd7,Zd8,Zd9,Zea,Zeb,Zec,Zbu,Zed,Zee,Zef,Zeg,Zeh,Zei,Zej,Zek,Zel,Zem,Zen,Zeo,Zep,Zeq,Zer,Zes,Zet,Zeu,Zev,Zew,Zex,Zey,Zez,Ze0,Ze1,Ze2,Ze3,Ze4,Ze5,Ze6,Ze7,Ze8,Ze9,Zfa,Zfb,Zfc,Zfd,Zfe,Zff,Zfg,Zfh,Zfi,Zfj,Zfk,Zfl,Zfm,Zfn,Zfo,Zfp,Zfq,Zfr,Zfs,Zft,Zfu,Zfv,Zfw,Zfx,Zfy,Zfz,Zf0,Zf1,Zf2,Zf3,Zf4,Zf5,Zf6,Zf7,Zf8,Zf9,Zga,Zgb,Zgc,Zgd,Zge,Zgf,Zgg,Zgh,Zgi,Zgj,Zgk,Zgl,Zgm,Zgn,Zgo,Zgp,Zgq,Zgr,Zgs,Zgt,Zgu,Zgv,Zgw,Zgx,Zgy,Zgz,Zg0,Zg1,Zg2,Zg3,Zg4,Zg5,Zg6,Zg7,Zg8,Zg9,Zha,Zhb,Zhc,Zhd,Zhe,Zhf,Zhg,Zhh,Zhi,Zhj,Zhk,Zhl,Zhm,Zhn,Zho,Zhp,Zhq,Zhr,Zhs,Zht,Zhu,Zhv,Zhw,Zhx,Zhy,Zhz,Zh0,Zh1,Zh2,Zh3,Zbv,Zh4,Zbw,Zh5,Zh6,Zbz,Zb0,Nat.reduceBEq,reduceIte,Nat.reduceEqDiff,Nat.reduceAdd,Nat.reduceMul,Nat.reduceSub,Nat.reduceLT,Nat.reduceLeDiff,reduceCtorEq,eq_self,ne_eq,ge_iff_le,gt_iff_lt,ite_self,implies_true,Int.reduceToNat,Int.reduceNeg,Zk,t0, t1, t8, hd, hb0, (woTurn_pu hm6 _).wa, hh.wa, m_spec_wmEat]
        refine again.mk (taste.length - (i + 1)) (by omega) ⟨i + 1, by omega, rfl, rfl, rfl, he, ?_⟩
        simp(config:={contextual:=true,maxSteps:=2000000,implicitDefEqProofs:=false})(disch:=first|omega|(simp only[Ze8,Ze7,List.length_map,List.length_set,List.length_append,List.length_cons,List.length_nil];first|done|omega))only[↓Zaa,↓Zab,↓Zac,↓Zad,↓Zae,↓Zaf,↓Zag,↓Zah,↓Zai,↓Zaj,↓Zak,↓Zal,↓Zam,↓Zan,↓Zao,↓Zap,↓Zaq,↓Zar,↓Zas,↓Zat,↓Zau,↓Zav,↓Zaw,↓Zax,↓Zay,↓Zaz,↓Za0,↓Za1,↓Za2,↓Za3,↓Za4,↓Za5,↓Za6,↓Za7,↓Za8,↓Za9,↓Zba,↓Zbb,↓Zbc,↓Zbd,↓Zbe,↓Zbf,↓Zbg,↓Zbh,↓Zbi,↓Zbj,↓Zbk,↓Zbl,↓Zbm,↓Zbn,↓Zbo,↓Zbp,↓Zbq,↓Zbr,↓Zbs,↓Zbt,↓Zbu,↓Zbv,↓Zbw,↓Zbx,↓Zby,↓Zbz,↓Zb0,↓reduceIte,Zb1,Zb2,Zb3,Zb4,Zb5,Zb6,Zb7,Zb8,Zbx,Zb9,Zby,Zca,Zcb,Zcc,Zcd,Zce,Zcf,Zcg,Zch,Zci,Zcj,Zck,Zcl,Zcm,Zcn,Zco,Zcp,Zcq,Zcr,Zcs,Zct,Zcu,Zcv,Zcw,Zcx,Zcy,Zcz,Zc0,Zc1,Zc2,Zc3,Zc4,Zc5,Zc6,Zc7,Zc8,Zc9,Zda,Zdb,Zdc,Zdd,Zde,Zdf,Zdg,Zdh,Zdi,Zdj,Zdk,Zdl,Zdm,Zdn,Zdo,Zdp,Zdq,Zdr,Zds,Zdt,Zdu,Zdv,Zdw,Zdx,Zdy,Zdz,Zd0,Zd1,Zd2,Zd3,Zd4,Zd5,Zd6,Zd7,Zd8,Zd9,Zea,Zeb,Zec,Zbu,Zed,Zee,Zef,Zeg,Zeh,Zei,Zej,Zek,Zel,Zem,Zen,Zeo,Zep,Zeq,Zer,Zes,Zet,Zeu,Zev,Zew,Zex,Zey,Zez,Ze0,Ze1,Ze2,Ze3,Ze4,Ze5,Ze6,Ze7,Ze8,Ze9,Zfa,Zfb,Zfc,Zfd,Zfe,Zff,Zfg,Zfh,Zfi,Zfj,Zfk,Zfl,Zfm,Zfn,Zfo,Zfp,Zfq,Zfr,Zfs,Zft,Zfu,Zfv,Zfw,Zfx,Zfy,Zfz,Zf0,Zf1,Zf2,Zf3,Zf4,Zf5,Zf6,Zf7,Zf8,Zf9,Zga,Zgb,Zgc,Zgd,Zge,Zgf,Zgg,Zgh,Zgi,Zgj,Zgk,Zgl,Zgm,Zgn,Zgo,Zgp,Zgq,Zgr,Zgs,Zgt,Zgu,Zgv,Zgw,Zgx,Zgy,Zgz,Zg0,Zg1,Zg2,Zg3,Zg4,Zg5,Zg6,Zg7,Zg8,Zg9,Zha,Zhb,Zhc,Zhd,Zhe,Zhf,Zhg,Zhh,Zhi,Zhj,Zhk,Zhl,Zhm,Zhn,Zho,Zhp,Zhq,Zhr,Zhs,Zht,Zhu,Zhv,Zhw,Zhx,Zhy,Zhz,Zh0,Zh1,Zh2,Zh3,Zbv,Zh4,Zbw,Zh5,Zh6,Zbz,Zb0,Nat.reduceBEq,reduceIte,Nat.reduceEqDiff,Nat.reduceAdd,Nat.reduceMul,Nat.reduceSub,Nat.reduceLT,Nat.reduceLeDiff,reduceCtorEq,eq_self,ne_eq,ge_iff_le,gt_iff_lt,ite_self,implies_true,Int.reduceToNat,Int.reduceNeg,Zk,t0, t1, t8]
    · have hi : i = taste.length := by omega
      subst hi
      rw [List.drop_length, eatFrom] at he
      simp(config:={contextual:=true,maxSteps:=2000000,implicitDefEqProofs:=false})(disch:=first|omega|(simp only[Ze8,Ze7,List.length_map,List.length_set,List.length_append,List.length_cons,List.length_nil];first|done|omega))only[↓Zaa,↓Zab,↓Zac,↓Zad,↓Zae,↓Zaf,↓Zag,↓Zah,↓Zai,↓Zaj,↓Zak,↓Zal,↓Zam,↓Zan,↓Zao,↓Zap,↓Zaq,↓Zar,↓Zas,↓Zat,↓Zau,↓Zav,↓Zaw,↓Zax,↓Zay,↓Zaz,↓Za0,↓Za1,↓Za2,↓Za3,↓Za4,↓Za5,↓Za6,↓Za7,↓Za8,↓Za9,↓Zba,↓Zbb,↓Zbc,↓Zbd,↓Zbe,↓Zbf,↓Zbg,↓Zbh,↓Zbi,↓Zbj,↓Zbk,↓Zbl,↓Zbm,↓Zbn,↓Zbo,↓Zbp,↓Zbq,↓Zbr,↓Zbs,↓Zbt,↓Zbu,↓Zbv,↓Zbw,↓Zbx,↓Zby,↓Zbz,↓Zb0,↓reduceIte,Zb1,Zb2,Zb3,Zb4,Zb5,Zb6,Zb7,Zb8,Zbx,Zb9,Zby,Zca,Zcb,Zcc,Zcd,Zce,Zcf,Zcg,Zch,Zci,Zcj,Zck,Zcl,Zcm,Zcn,Zco,Zcp,Zcq,Zcr,Zcs,Zct,Zcu,Zcv,Zcw,Zcx,Zcy,Zcz,Zc0,Zc1,Zc2,Zc3,Zc4,Zc5,Zc6,Zc7,Zc8,Zc9,Zda,Zdb,Zdc,Zdd,Zde,Zdf,Zdg,Zdh,Zdi,Zdj,Zdk,Zdl,Zdm,Zdn,Zdo,Zdp,Zdq,Zdr,Zds,Zdt,Zdu,Zdv,Zdw,Zdx,Zdy,Zdz,Zd0,Zd1,Zd2,Zd3,Zd4,Zd5,Zd6,Zd7,Zd8,Zd9,Zea,Zeb,Zec,Zbu,Zed,Zee,Zef,Zeg,Zeh,Zei,Zej,Zek,Zel,Zem,Zen,Zeo,Zep,Zeq,Zer,Zes,Zet,Zeu,Zev,Zew,Zex,Zey,Zez,Ze0,Ze1,Ze2,Ze3,Ze4,Ze5,Ze6,Ze7,Ze8,Ze9,Zfa,Zfb,Zfc,Zfd,Zfe,Zff,Zfg,Zfh,Zfi,Zfj,Zfk,Zfl,Zfm,Zfn,Zfo,Zfp,Zfq,Zfr,Zfs,Zft,Zfu,Zfv,Zfw,Zfx,Zfy,Zfz,Zf0,Zf1,Zf2,Zf3,Zf4,Zf5,Zf6,Zf7,Zf8,Zf9,Zga,Zgb,Zgc,Zgd,Zge,Zgf,Zgg,Zgh,Zgi,Zgj,Zgk,Zgl,Zgm,Zgn,Zgo,Zgp,Zgq,Zgr,Zgs,Zgt,Zgu,Zgv,Zgw,Zgx,Zgy,Zgz,Zg0,Zg1,Zg2,Zg3,Zg4,Zg5,Zg6,Zg7,Zg8,Zg9,Zha,Zhb,Zhc,Zhd,Zhe,Zhf,Zhg,Zhh,Zhi,Zhj,Zhk,Zhl,Zhm,Zhn,Zho,Zhp,Zhq,Zhr,Zhs,Zht,Zhu,Zhv,Zhw,Zhx,Zhy,Zhz,Zh0,Zh1,Zh2,Zh3,Zbv,Zh4,Zbw,Zh5,Zh6,Zbz,Zb0,Nat.reduceBEq,reduceIte,Nat.reduceEqDiff,Nat.reduceAdd,Nat.reduceMul,Nat.reduceSub,Nat.reduceLT,Nat.reduceLeDiff,reduceCtorEq,eq_self,ne_eq,ge_iff_le,gt_iff_lt,ite_self,implies_true,Int.reduceToNat,Int.reduceNeg,Zk,t0, t1, t8, he, m_spec_wmEat]

end Go.AM
