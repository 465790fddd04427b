/- Two secrets and their public keys: what a table answers. -/
import Derived.Test.YtjnhpklhdikcdaaTnK
set_option linter.unusedVariables false
set_option linter.unusedSimpArgs false
namespace Go.Proofs.Ytjnhpklhdikcdaa
open Sx
set_option maxRecDepth 100000
set_option maxHeartbeats 1000000
theorem okT1 (k : Nat) (hk : k < 256) {s : ByteArray} (h : s.size ≤ 4000) : okT k [s] := ⟨hk, by simp, by simp, ok1 s h⟩
theorem okT3 {a b : ByteArray} (ha : a.size ≤ 4000) (hb : b.size ≤ 4000) : okT 3 (srt a b) := by
  have := srt_len a b
  exact ⟨by omega, (fun q => by rw [q] at this; cases this), by omega, srt_ok ha hb⟩
theorem stay_tb (s : ByteArray) (b : Bool) : stay (.tup [.str s, .bool b]) := fun _ _ _ _ => rfl
theorem dhA {T : Tms'} (hT : T ≠ []) (hok : okTs T) (hl : T.length < 900) {i : Nat} {y : ByteArray} (h : isAt T i (2, [y])) (s : ByteArray) (hs : okT 3 (srt s y)) (X Y : Nat) (hX : 2 < X) (hY : 2 < Y) (hXY : X ≠ Y) (hX9 : X ≠ 992) :
    FnR Try.prog G 21 [.ptr 0 0 0 1, .str s, .str (nmS ((i + 1 : Nat) : Int))] (tbX X (encL T)) (.tup [.str (putN (encL T) 3 (srt s y)), .bool true]) (tbX Y (encL (tPut T 3 (srt s y)))) := by
  have hg := fndI_get (by omega) (fnd_at (by omega) (isAt_lt h)) h
  have c := dhT_have (encL T) (encL_ne hT) (by rw [encL_len]; omega) s (nmS ((i + 1 : Nat) : Int)) y [] (hok _ (List.mem_of_getElem? h)) hg
  obtain ⟨j, hj, _⟩ := put_at hok hs
  have hb : nB (putN (encL T) 3 (srt s y)) = true := by rw [hj, nB_nm]
  rw [hb, putT_enc] at c
  exact renT X Y hX hY hXY hX9 (stay_lst2 (stay_str _) (stay_str _)) (stay_tb _ _) c
theorem dhB {T : Tms'} (hT : T ≠ []) (hok : okTs T) (hl : T.length < 900) {i : Nat} {k : Nat} {ps : List ByteArray} (hk : k ≠ 2) (h : isAt T i (k, ps)) (s : ByteArray) (X : Nat) (hX : 2 < X) :
    FnR Try.prog G 21 [.ptr 0 0 0 1, .str s, .str (nmS ((i + 1 : Nat) : Int))] (tbX X (encL T)) (.tup [.str eS, .bool false]) (tbX X (encL T)) := by
  have hg := fndI_get (by omega) (fnd_at (by omega) (isAt_lt h)) h
  have ho := hok _ (List.mem_of_getElem? h)
  cases ps with
  | nil => exact absurd rfl ho.2.1
  | cons y ps => exact renS X hX (stay_lst2 (stay_str _) (stay_str _)) (stay_tb _ _) (dhT_oth (encL T) (encL_ne hT) s _ k y ps ho hk hg)
theorem nm_beq {i j : Nat} (hi : i < 1000) (hj : j < 1000) : ((nmS ((i + 1 : Nat) : Int)).toList == (nmS ((j + 1 : Nat) : Int)).toList) = decide (i = j) := by
  rw [toL_beq, Bool.eq_iff_iff, decide_eq_true_iff, decide_eq_true_iff]
  constructor
  · intro h
    have := nmS_inj (by omega) (by omega) h
    omega
  · rintro rfl; rfl
/-- Whoever of two puts a term first, the names are the same just if the terms are. -/
theorem two_at {T : Tms'} (hu : uniq T) {i j : Nat} {t t' : Nat × List ByteArray} (h : isAt T i t) (h' : isAt T j t') : i = j ↔ t = t' := by
  constructor
  · rintro rfl; exact isAt_eq h h'
  · rintro rfl; exact hu i j t h h'
theorem both_plain (T1 : Tms') (hok : okTs T1) (hu : uniq T1) (hl : T1.length ≤ 60) (a b : ByteArray) (ha : a.size ≤ 1000) (hb : b.size ≤ 1000) : ∃ (T2 T3 T4 T5 : Tms') (p q x z : ByteArray), T2 ≠ [] ∧
    (putN (encL T1) 2 [a] = p ∧ tPut T1 2 [a] = T2) ∧
    FnR Try.prog G 19 [.ptr 0 0 0 1, .str b] (tbX 80 (encL T2)) (.str q) (tbX 128 (encL T3)) ∧
    FnR Try.prog G 21 [.ptr 0 0 0 1, .str a, .str q] (tbX 128 (encL T3)) (.tup [.str x, .bool true]) (tbX 224 (encL T4)) ∧
    FnR Try.prog G 21 [.ptr 0 0 0 1, .str b, .str p] (tbX 224 (encL T4)) (.tup [.str x, .bool true]) (tbX 368 (encL T4)) ∧
    FnR Try.prog G 21 [.ptr 0 0 0 1, .str a, .str p] (tbX 368 (encL T4)) (.tup [.str z, .bool true]) (tbX 512 (encL T5)) ∧
    FnR Try.prog G 21 [.ptr 0 0 0 1, .str a, .str x] (tbX 512 (encL T5)) (.tup [.str eS, .bool false]) (tbX 512 (encL T5)) ∧
    (z.toList == x.toList) = (a.toList == b.toList) ∧ (p.toList == q.toList) = (a.toList == b.toList) := by
  have oa : okT 2 [a] := okT1 2 (by omega) (by omega)
  have ob : okT 2 [b] := okT1 2 (by omega) (by omega)
  have oab : okT 3 (srt a b) := okT3 (by omega) (by omega)
  have oaa : okT 3 (srt a a) := okT3 (by omega) (by omega)
  obtain ⟨ip, hp, ap⟩ := put_at hok oa
  have hok2 := putT_ok hok oa.1 oa.2.1 oa.2.2.1
  have hu2 := put_uniq hu 2 [a]
  have hl2 := putT_len T1 2 [a]
  generalize hT2 : tPut T1 2 [a] = T2 at *
  have ht2 : T2 ≠ [] := by rintro rfl; simp [isAt] at ap
  obtain ⟨iq, hq, aq⟩ := put_at hok2 ob
  have hok3 := putT_ok hok2 ob.1 ob.2.1 ob.2.2.1
  have hu3 := put_uniq hu2 2 [b]
  have hl3 := putT_len T2 2 [b]
  have pr3 := putT_pre T2 2 [b]
  have hc2 := pubXY b (encL T2) (encL_ne ht2) (by rw [encL_len]; omega) 80 128 (by omega) (by omega) (by omega) (by omega)
  rw [putT_enc] at hc2
  generalize hT3 : tPut T2 2 [b] = T3 at *
  have ht3 := pre_ne pr3 ht2
  have ap3 := isAt_pre pr3 ap
  have hc3 := dhA ht3 hok3 (by omega) aq a oab 128 224 (by omega) (by omega) (by omega) (by omega)
  obtain ⟨ix, hx, ax⟩ := put_at hok3 oab
  have hok4 := putT_ok hok3 oab.1 oab.2.1 oab.2.2.1
  have hu4 := put_uniq hu3 3 (srt a b)
  have hl4 := putT_len T3 3 (srt a b)
  have pr4 := putT_pre T3 3 (srt a b)
  generalize hT4 : tPut T3 3 (srt a b) = T4 at *
  have ht4 := pre_ne pr4 ht3
  have ap4 := isAt_pre pr4 ap3
  have aq4 := isAt_pre pr4 aq
  have hc4 := dhA ht4 hok4 (by omega) ap4 b (by rw [srt_comm]; exact oab) 224 368 (by omega) (by omega) (by omega) (by omega)
  rw [srt_comm b a, (put_again hu4 hok4 oab ax).1, (put_again hu4 hok4 oab ax).2] at hc4
  have hc5 := dhA ht4 hok4 (by omega) ap4 a oaa 368 512 (by omega) (by omega) (by omega) (by omega)
  obtain ⟨iz, hz, az⟩ := put_at hok4 oaa
  have hok5 := putT_ok hok4 oaa.1 oaa.2.1 oaa.2.2.1
  have hu5 := put_uniq hu4 3 (srt a a)
  have hl5 := putT_len T4 3 (srt a a)
  have pr5 := putT_pre T4 3 (srt a a)
  generalize hT5 : tPut T4 3 (srt a a) = T5 at *
  have ht5 := pre_ne pr5 ht4
  have ax5 := isAt_pre pr5 ax
  have hc6 := dhB ht5 hok5 (by omega) (by omega : 3 ≠ 2) ax5 a 512 (by omega)
  rw [hx] at hc3
  rw [hz] at hc5
  rw [hq] at hc2
  have lz := isAt_lt az
  have lx := isAt_lt ax5
  have lp := isAt_lt ap3
  have lq := isAt_lt aq
  refine ⟨T2, T3, T4, T5, _, _, _, _, ht2, ⟨hp, rfl⟩, hc2, hc3, hc4, hc5, hc6, ?_, ?_⟩
  · rw [nm_beq (by omega) (by omega), toL_beq, Bool.eq_iff_iff, decide_eq_true_iff, decide_eq_true_iff, two_at hu5 az ax5]
    simp only [Prod.mk.injEq, true_and]
    exact srt_self a b
  · rw [nm_beq (by omega) (by omega), toL_beq, Bool.eq_iff_iff, decide_eq_true_iff, decide_eq_true_iff, two_at hu3 ap3 aq]
    simp
end Go.Proofs.Ytjnhpklhdikcdaa
