/- Plain: the statements' plain halves. -/
import Derived.Test.YtcjmbeikjinedaaTagR
set_option linter.unusedVariables false
set_option linter.unusedSimpArgs false
namespace Go.Proofs.Ytcjmbeikjinedaa
open Sx Pl
set_option maxRecDepth 100000
def numN : List Nat → Nat
  | [] => 0
  | x :: xs => x + 256 * numN xs
theorem numN_num : ∀ xs : List Nat, num (xs.map Int.ofNat) = (numN xs : Int)
  | [] => rfl
  | x :: xs => by
    simp only [List.map_cons, num, numN, numN_num xs]
    show (x : Int) + 256 * (numN xs : Int) = _
    omega
theorem and_digit {a c : Nat} (ha : a < 256) (hc : c < 256) (b d : Nat) : (a + 256 * b) &&& (c + 256 * d) = (a &&& c) + 256 * (b &&& d) := by
  have h1 : a + 256 * b = 2 ^ 8 * b + a := by omega
  have h2 : c + 256 * d = 2 ^ 8 * d + c := by omega
  have hac : a &&& c < 2 ^ 8 := Nat.and_lt_two_pow a hc
  have h3 : (a &&& c) + 256 * (b &&& d) = 2 ^ 8 * (b &&& d) + (a &&& c) := by omega
  rw [h1, h2, h3]
  apply Nat.eq_of_testBit_eq
  intro i
  rw [Nat.testBit_and, Nat.testBit_two_pow_mul_add _ ha, Nat.testBit_two_pow_mul_add _ hc, Nat.testBit_two_pow_mul_add _ hac]
  by_cases hi : i < 8 <;> simp [hi, Nat.testBit_and]
theorem nat_and : ∀ (xs ms : List Nat), (∀ x ∈ xs, x < 256) → (∀ x ∈ ms, x < 256) → numN xs &&& numN ms = numN (List.zipWith (· &&& ·) xs ms)
  | [], ms, _, _ => by simp [numN]
  | x :: xs, [], _, _ => by simp [numN]
  | x :: xs, m :: ms, hx, hm => by
    rw [numN, numN, and_digit (hx x (by simp)) (hm m (by simp)), nat_and xs ms (fun y h => hx y (by simp [h])) (fun y h => hm y (by simp [h]))]
    rfl
theorem numN_lt : ∀ (xs : List Nat), (∀ x ∈ xs, x < 256) → numN xs < 256 ^ xs.length
  | [], _ => by simp [numN]
  | x :: xs, h => by
    have h1 := h x (by simp)
    have h2 := numN_lt xs (fun y hy => h y (by simp [hy]))
    rw [numN, List.length_cons, Nat.pow_succ]
    omega
theorem numN_append (xs ys : List Nat) : numN (xs ++ ys) = numN xs + 256 ^ xs.length * numN ys := by
  induction xs with
  | nil => simp [numN]
  | cons x xs ih =>
    simp only [List.cons_append, numN, ih, List.length_cons, Nat.pow_succ]
    rw [Nat.mul_add, ← Nat.mul_assoc, Nat.mul_comm 256 (256 ^ xs.length), Nat.add_assoc]
theorem by_nat {xs : List Int} (h : Pl.By xs) : xs = (xs.map Int.toNat).map Int.ofNat ∧ ∀ x ∈ xs.map Int.toNat, x < 256 := by
  constructor
  · rw [List.map_map]
    conv => lhs; rw [← List.map_id xs]
    apply List.map_congr_left
    intro x hx
    have := h x hx
    simp
    omega
  · intro x hx
    obtain ⟨y, hy, rfl⟩ := List.mem_map.1 hx
    have := h y hy
    omega
def msk : List Nat := [255, 255, 255, 15, 252, 255, 255, 15, 252, 255, 255, 15, 252, 255, 255, 15]
theorem rK_num {key : List Int} (hk : Pl.By key) (hl : key.length = 32) : rK key = (numN (List.zipWith (· &&& ·) ((key.map Int.toNat).take 16) msk) : Int) := by
  obtain ⟨e, hn⟩ := by_nat hk
  have hn1 : ∀ x ∈ (key.map Int.toNat).take 8, x < 256 := fun x hx => hn x (List.mem_of_mem_take hx)
  have hn2 : ∀ x ∈ ((key.map Int.toNat).drop 8).take 8, x < 256 := fun x hx => hn x (List.mem_of_mem_drop (List.mem_of_mem_take hx))
  have w0 : wordN ((key.drop 0).take 32) 8 = (numN ((key.map Int.toNat).take 8) : Int) := by
    rw [word_num (By.take (By.drop hk _) _) 8 (by omega) (by simp [hl]), List.take_take, List.drop_zero, ← numN_num]
    conv => lhs; rw [e]
    simp
  have w1 : wordN ((key.drop 8).take 24) 8 = (numN (((key.map Int.toNat).drop 8).take 8) : Int) := by
    rw [word_num (By.take (By.drop hk _) _) 8 (by omega) (by simp [hl]), List.take_take, ← numN_num]
    conv => lhs; rw [e]
    simp
  have l0 := numN_lt _ hn1
  have l1 := numN_lt _ hn2
  rw [List.length_take, List.length_map, hl] at l0
  rw [List.length_take, List.length_drop, List.length_map, hl] at l1
  have p0 : (256 : Nat) ^ min 8 32 = 2 ^ IntKind.u64.bits := by decide
  have p1 : (256 : Nat) ^ min 8 (32 - 8) = 2 ^ IntKind.u64.bits := by decide
  rw [p0] at l0
  rw [p1] at l1
  unfold rK V2 rN
  simp only [List.getD_cons_zero, List.getD_cons_succ]
  rw [w0, w1, show (1152921487695413247 : Int) = ((numN (msk.take 8) : Nat) : Int) from by decide, show (1152921487695413244 : Int) = ((numN (msk.drop 8) : Nat) : Int) from by decide,
    bits_and rfl l0 (by decide), bits_and rfl l1 (by decide), nat_and _ _ hn1 (by decide), nat_and _ _ hn2 (by decide)]
  have e2 : (key.map Int.toNat).take 16 = (key.map Int.toNat).take 8 ++ ((key.map Int.toNat).drop 8).take 8 := by
    rw [← List.take_add]
  have e3 : msk = msk.take 8 ++ msk.drop 8 := (List.take_append_drop 8 msk).symm
  have e4 : List.zipWith (· &&& ·) ((key.map Int.toNat).take 16) msk = List.zipWith (· &&& ·) ((key.map Int.toNat).take 8) (msk.take 8) ++ List.zipWith (· &&& ·) (((key.map Int.toNat).drop 8).take 8) (msk.drop 8) := by
    rw [e2]
    conv => lhs; rw [e3]
    rw [List.zipWith_append (by simp [hl, msk])]
  rw [e4, numN_append, List.length_zipWith, List.length_take, List.length_map, hl]
  have : (256 : Nat) ^ min (min 8 32) (msk.take 8).length = 18446744073709551616 := by decide
  rw [this]
  omega
theorem poly_zero (m : List Int) : ∀ k, poly 0 m k = 0
  | 0 => rfl
  | k + 1 => by simp [poly]
theorem tagBlocks_plain {o m : List Int} (ho : o.length = 16) (hB : Pl.By o) (hm : Pl.By m) : sumN (List.replicate 16 0 ++ o) m = o := by
  have hk : Pl.By (List.replicate 16 (0 : Int) ++ o) := By.app (By.zeros 16) hB
  have hl : (List.replicate 16 (0 : Int) ++ o).length = 32 := by simp [ho]
  have hr : rK (List.replicate 16 0 ++ o) = 0 := by
    rw [rK_num hk hl]
    have : ((List.replicate 16 (0 : Int) ++ o).map Int.toNat).take 16 = List.replicate 16 0 := by
      rw [List.map_append, List.map_replicate, List.take_append_of_le_length (by simp)]
      simp
    rw [this]
    rfl
  rw [sum_val hk hl hm, hr, poly_zero]
  have : (List.replicate 16 (0 : Int) ++ o).drop 16 = o := by
    rw [List.drop_append_of_le_length (by simp)]; simp
  rw [this, show (0 : Int) % pM + num o = num o by simp]
  have := byt_num hB
  rwa [ho] at this
theorem num_set_one (m : List Int) : num ((m ++ List.replicate (16 - m.length) 0).set m.length 1) = num m + (if m.length < 16 then 256 ^ m.length else 0) := by
  by_cases h : m.length < 16
  · rw [List.set_append_right _ _ (Nat.le_refl _), Nat.sub_self, show 16 - m.length = (15 - m.length) + 1 by omega, List.replicate_succ, List.set_cons_zero, num_append, num, num_zeros, if_pos h]
    simp
  · rw [if_neg h, show 16 - m.length = 0 by omega, List.replicate_zero, List.append_nil, List.set_eq_of_length_le (Nat.le_refl _)]
    omega
theorem tagOne_plain {m : List Int} (hm : Pl.By m) (hl : m.length ≤ 15) : sumN (1 :: List.replicate 31 0) m = oneN m := by
  have hk : Pl.By (1 :: List.replicate 31 (0 : Int)) := fun x hx => by
    rcases List.mem_cons.1 hx with rfl | hx
    · omega
    · exact By.zeros _ x hx
  have hr : rK (1 :: List.replicate 31 0) = 1 := by
    rw [rK_num hk (by simp)]
    decide
  have hd : num ((1 :: List.replicate 31 (0 : Int)).drop 16) = 0 := by decide
  rw [sum_val hk (by simp) hm, hr, hd, Int.add_zero]
  by_cases h0 : 0 < m.length
  · have hoB : Pl.By (oneN m) := by
      rw [oneN, if_pos h0]
      intro x hx
      rcases List.mem_or_eq_of_mem_set hx with h | h
      · exact By.app hm (By.zeros _) x h
      · rw [h]; omega
    have hol : (oneN m).length = 16 := by rw [oneN, if_pos h0]; simp; omega
    have hn : num (oneN m) = poly 1 m ((m.length + 15) / 16) % pM := by
      rw [show (m.length + 15) / 16 = 0 + 1 by omega, poly, poly, Nat.mul_zero, List.drop_zero, oneN, if_pos h0, num_set_one, if_pos (by omega), bv, List.take_of_length_le (by omega), Nat.min_eq_left (by omega)]
      have h1 := num_range hm
      have h2 : (256 : Int) ^ m.length ≤ 256 ^ 15 := by
        have : (256 : Nat) ^ m.length ≤ 256 ^ 15 := Nat.pow_le_pow_right (by omega) hl
        exact_mod_cast this
      have h3 : (256 : Int) ^ 15 = 1329227995784915872903807060280344576 := rfl
      rw [Int.zero_add, Int.mul_one, Int.emod_eq_of_lt (by omega) (by unfold pM; omega)]
    have := byt_num hoB
    rwa [hol, hn] at this
  · have : m = [] := List.length_eq_zero_iff.1 (by omega)
    subst this
    decide

/-! ### The bits that are left out -/
def bitF (key noise : List Int) (i : Nat) : Int :=
  if i % 4 = 3 then bits .xor .u8 (key.getD i 0) (bits .and .u8 (noise.getD i 0) 240)
  else if i = 4 ∨ i = 8 ∨ i = 12 then bits .xor .u8 (key.getD i 0) (bits .and .u8 (noise.getD i 0) 3)
  else key.getD i 0
theorem getD_set_self {xs : List Int} {k : Nat} (h : k < xs.length) (v : Int) : (xs.set k v).getD k 0 = v := by
  simp [List.getD_eq_getElem?_getD, h]
theorem getD_set_ne {xs : List Int} {k i : Nat} (h : k ≠ i) (v : Int) : (xs.set k v).getD i 0 = xs.getD i 0 := by
  simp [List.getD_eq_getElem?_getD, List.getElem?_set, h]
theorem bitK_get {key noise : List Int} (hl : key.length = 32) : ∀ k, k ≤ 16 → ∀ i, (bitK key noise k).getD i 0 = if i < k then bitF key noise i else key.getD i 0
  | 0, _, i => by simp [bitK]
  | k + 1, hk, i => by
    have ih := bitK_get (noise := noise) hl k (by omega)
    have hbl := bitK_len key noise k
    by_cases hi : i = k
    · subst hi
      have e0 : (bitK key noise i).getD i 0 = key.getD i 0 := by rw [ih i, if_neg (by omega)]
      have hlt : i < (bitK key noise i).length := by omega
      rw [if_pos (by omega), bitF, bitK, e0]
      by_cases c1 : i % 4 = 3
      · rw [if_pos c1, if_pos c1]; exact getD_set_self hlt _
      · rw [if_neg c1, if_neg c1]
        by_cases c2 : i = 4 ∨ i = 8 ∨ i = 12
        · rw [if_pos c2, if_pos c2]; exact getD_set_self hlt _
        · rw [if_neg c2, if_neg c2]; exact e0
    · have e : (bitK key noise (k + 1)).getD i 0 = (bitK key noise k).getD i 0 := by
        rw [bitK]
        split
        · exact getD_set_ne (fun h => hi h.symm) _
        · split
          · exact getD_set_ne (fun h => hi h.symm) _
          · rfl
      rw [e, ih i]
      by_cases h2 : i < k
      · rw [if_pos h2, if_pos (by omega)]
      · rw [if_neg h2, if_neg (by omega)]
theorem xor_mask {a n c m : Nat} (h : c &&& m = 0) : (a ^^^ (n &&& c)) &&& m = a &&& m := by
  rw [Nat.and_xor_distrib_right, Nat.and_assoc, h, Nat.and_zero, Nat.xor_zero]
theorem bitF_ok {key noise : List Int} (hk : Pl.By key) (hn : Pl.By noise) (i : Nat) (hi : i < 16) : 0 ≤ bitF key noise i ∧ bitF key noise i < 256 ∧ (bitF key noise i).toNat &&& msk.getD i 0 = (key.getD i 0).toNat &&& msk.getD i 0 := by
  obtain ⟨a, ha, hab⟩ := byte_nat (getD_by hk i)
  obtain ⟨n, hn1, hnb⟩ := byte_nat (getD_by hn i)
  have hx : ∀ c : Nat, c < 256 → bits .xor .u8 (key.getD i 0) (bits .and .u8 (noise.getD i 0) (c : Int)) = ((a ^^^ (n &&& c) : Nat) : Int) ∧ a ^^^ (n &&& c) < 256 := by
    intro c hc
    have h1 : n &&& c < 2 ^ 8 := Nat.and_lt_two_pow n hc
    rw [ha, hn1, bits_and rfl (by simpa [IntKind.bits] using hnb) (by simpa [IntKind.bits] using hc), bits_xor rfl (by simpa [IntKind.bits] using hab) (by simpa [IntKind.bits] using h1)]
    exact ⟨rfl, Nat.xor_lt_two_pow (n := 8) hab h1⟩
  have c1 := hx 240 (by omega)
  have c2 := hx 3 (by omega)
  unfold bitF
  split
  · next h3 =>
    rw [show ((240 : Nat) : Int) = 240 from rfl] at c1
    rw [c1.1]
    refine ⟨by omega, by omega, ?_⟩
    have hm : msk.getD i 0 = 15 := by
      have : i = 3 ∨ i = 7 ∨ i = 11 ∨ i = 15 := by omega
      rcases this with rfl | rfl | rfl | rfl <;> rfl
    rw [hm, Int.toNat_natCast, ha, Int.toNat_natCast]
    exact xor_mask (by decide)
  · split
    · next h3 =>
      rw [show ((3 : Nat) : Int) = 3 from rfl] at c2
      rw [c2.1]
      refine ⟨by omega, by omega, ?_⟩
      have hm : msk.getD i 0 = 252 := by
        rcases h3 with rfl | rfl | rfl <;> rfl
      rw [hm, Int.toNat_natCast, ha, Int.toNat_natCast]
      exact xor_mask (by decide)
    · exact ⟨by omega, by omega, rfl⟩
theorem by_getD {xs : List Int} (h : ∀ i, i < xs.length → 0 ≤ xs.getD i 0 ∧ xs.getD i 0 < 256) : Pl.By xs := by
  intro x hx
  obtain ⟨i, hi⟩ := List.getElem?_of_mem hx
  have hl := (List.getElem?_eq_some_iff.1 hi).1
  have := h i hl
  rw [List.getD_eq_getElem?_getD, hi] at this
  simpa using this
theorem tagBits_plain {key noise m : List Int} (hkl : key.length = 32) (hk : Pl.By key) (hn : Pl.By noise) (hm : Pl.By m) : sumN key m = sumN (bitK key noise 16) m := by
  have hbl := bitK_len key noise 16
  have hget := bitK_get (noise := noise) hkl 16 (by omega)
  have hb : Pl.By (bitK key noise 16) := by_getD (fun i hi => by
    rw [hget i]
    split
    · next h => have := bitF_ok hk hn i h; exact ⟨this.1, this.2.1⟩
    · exact getD_by hk i)
  have hd : (bitK key noise 16).drop 16 = key.drop 16 := by
    apply List.ext_getElem (by simp [hbl])
    intro i h1 h2
    have := hget (16 + i)
    rw [if_neg (by omega)] at this
    simp at h1 h2
    simp only [List.getElem_drop]
    simpa [List.getD_eq_getElem?_getD, show 16 + i < (bitK key noise 16).length by omega, show 16 + i < key.length by omega] using this
  have hz : List.zipWith (· &&& ·) (((bitK key noise 16).map Int.toNat).take 16) msk = List.zipWith (· &&& ·) ((key.map Int.toNat).take 16) msk := by
    apply List.ext_getElem (by simp [hbl])
    intro i h1 h2
    have h3 : i < 16 := by simp [msk] at h1; omega
    have := (bitF_ok hk hn i h3).2.2
    have hg := hget i
    rw [if_pos h3] at hg
    rw [← hg] at this
    simp only [List.getElem_zipWith, List.getElem_take, List.getElem_map]
    simpa [List.getD_eq_getElem?_getD, show i < (bitK key noise 16).length by omega, show i < key.length by omega, show i < msk.length by simp [msk]; omega] using this
  rw [sum_val hk hkl hm, sum_val hb (by rw [hbl, hkl]) hm, rK_num hk hkl, rK_num hb (by rw [hbl, hkl]), hz, hd]
theorem outN_ok (h : List Int) : ∀ k, R8 (outN h k) ∧ (outN h k).length = 16
  | 0 => ⟨fun i => by simp only [outN, List.getD_eq_getElem?_getD, List.getElem?_replicate]; split <;> simp, by simp [outN]⟩
  | k + 1 => by
    obtain ⟨h1, h2⟩ := outN_ok h k
    refine ⟨fun i => ?_, by simp [outN, h2]⟩
    rw [outN]
    by_cases hi : i = k
    · subst hi
      by_cases hl : i < (outN h i).length
      · rw [getD_set_self hl, IntKind.wrap_u8]; omega
      · rw [List.set_eq_of_length_le (by omega)]; exact h1 i
    · rw [getD_set_ne (fun e => hi e.symm)]; exact h1 i

/-! ### Differences -/
theorem minC_val {xs ys : List Int} (hx : Pl.By xs) (hy : Pl.By ys) (hlx : xs.length = 16) (hly : ys.length = 16) : ∀ k, k ≤ 16 →
    (minC xs ys k).1 = byt k (num (xs.take k) - num (ys.take k)) ++ List.replicate (16 - k) 0 ∧ ∃ c, c = (minC xs ys k).2 ∧ num (xs.take k) - num (ys.take k) + 256 ^ k * c = (num (xs.take k) - num (ys.take k)) % 256 ^ k
  | 0, _ => by simp [minC, byt, num, Int.emod_one]
  | k + 1, hk => by
    obtain ⟨h1, c, hc, h2⟩ := minC_val hx hy hlx hly k (by omega)
    have bx := getD_by hx k
    have by' := getD_by hy k
    have r1 := minC_ok xs ys k
    have P : (0 : Int) < 256 ^ k := Int.pow_pos (by omega)
    have e1 := num_take_succ (xs := xs) (k := k) (by omega)
    have e2 := num_take_succ (xs := ys) (k := k) (by omega)
    have hm1 := Int.emod_nonneg (num (xs.take k) - num (ys.take k)) (show (256 : Int) ^ k ≠ 0 by omega)
    have hm2 := Int.emod_lt_of_pos (num (xs.take k) - num (ys.take k)) P
    have hdiv : (num (xs.take (k + 1)) - num (ys.take (k + 1))) / 256 ^ k = xs.getD k 0 - ys.getD k 0 - c := by
      rw [e1, e2]
      have : num (xs.take k) + 256 ^ k * xs.getD k 0 - (num (ys.take k) + 256 ^ k * ys.getD k 0) = (num (xs.take k) - num (ys.take k)) % 256 ^ k + 256 ^ k * (xs.getD k 0 - ys.getD k 0 - c) := by
        rw [← h2]; grind
      rw [this, Int.add_mul_ediv_left _ _ (by omega), Int.ediv_eq_zero_of_lt hm1 hm2, Int.zero_add]
    have hmod : (num (xs.take (k + 1)) - num (ys.take (k + 1))) % 256 ^ k = (num (xs.take k) - num (ys.take k)) % 256 ^ k := by
      rw [e1, e2]
      have : num (xs.take k) + 256 ^ k * xs.getD k 0 - (num (ys.take k) + 256 ^ k * ys.getD k 0) = (num (xs.take k) - num (ys.take k)) + 256 ^ k * (xs.getD k 0 - ys.getD k 0) := by grind
      rw [this, Int.add_mul_emod_self_left]
    refine ⟨?_, ?_⟩
    · rw [byt_app k 1, hdiv, ← byt_mod k (num (xs.take (k + 1)) - num (ys.take (k + 1))), hmod, byt_mod]
      rw [minC, h1, ← hc, show 16 - k = (16 - (k + 1)) + 1 by omega, List.replicate_succ, List.set_append_right _ _ (by rw [byt_len]; exact Nat.le_refl _), byt_len, Nat.sub_self, List.set_cons_zero, byt, byt, List.append_assoc]
      rfl
    · have full := Int.emod_add_mul_ediv (num (xs.take (k + 1)) - num (ys.take (k + 1))) (256 ^ k)
      rw [hdiv, hmod, ← h2] at full
      refine ⟨_, rfl, ?_⟩
      rw [minC]
      rw [← hc] at r1 ⊢
      rw [Int.pow_succ]
      have hX : num (xs.take (k + 1)) - num (ys.take (k + 1)) = (num (xs.take k) - num (ys.take k)) % 256 ^ k + 256 ^ k * (xs.getD k 0 - ys.getD k 0 - c) := by rw [← h2]; exact full.symm
      rw [hX]
      generalize (num (xs.take k) - num (ys.take k)) % 256 ^ k = u at *
      simp only
      split
      · have e : u + 256 ^ k * (xs.getD k 0 - ys.getD k 0 - c) + 256 ^ k * 256 * 1 = u + 256 ^ k * (xs.getD k 0 - ys.getD k 0 - c + 256) := by grind
        have e' : (u + 256 ^ k * (xs.getD k 0 - ys.getD k 0 - c)) = (u + 256 ^ k * (xs.getD k 0 - ys.getD k 0 - c + 256)) + 256 ^ k * 256 * (-1) := by grind
        rw [e, e', Int.add_mul_emod_self_left]
        refine (Int.emod_eq_of_lt ?_ ?_).symm
        · exact Int.add_nonneg hm1 (Int.mul_nonneg (by omega) (by omega))
        · have : 256 ^ k * (xs.getD k 0 - ys.getD k 0 - c + 256) ≤ 256 ^ k * 255 := Int.mul_le_mul_of_nonneg_left (by omega) (by omega)
          omega
      · rw [Int.mul_zero, Int.add_zero]
        refine (Int.emod_eq_of_lt ?_ ?_).symm
        · exact Int.add_nonneg hm1 (Int.mul_nonneg (by omega) (by omega))
        · have : 256 ^ k * (xs.getD k 0 - ys.getD k 0 - c) ≤ 256 ^ k * 255 := Int.mul_le_mul_of_nonneg_left (by omega) (by omega)
          omega
theorem minus_byt (A B : Int) : (minC (byt 16 A) (byt 16 B) 16).1 = byt 16 (A - B) := by
  obtain ⟨h, _⟩ := minC_val (byt_by 16 A) (byt_by 16 B) (byt_len 16 A) (byt_len 16 B) 16 (Nat.le_refl _)
  rw [h, List.take_of_length_le (by rw [byt_len]; exact Nat.le_refl _), List.take_of_length_le (by rw [byt_len]; exact Nat.le_refl _), num_byt, num_byt, Nat.sub_self, List.replicate_zero, List.append_nil, ← byt_mod 16 (A - B), ← byt_mod 16 (A % 256 ^ 16 - B % 256 ^ 16), Int.sub_emod A B]
theorem tagTogether_plain {key o a b : List Int} (hkl : key.length = 32) (hol : o.length = 16) (hk : Pl.By key) (ho : Pl.By o) (ha : Pl.By a) (hb : Pl.By b) :
    (minC (sumN key a) (sumN key b) 16).1 = (minC (sumN (key.take 16 ++ o) a) (sumN (key.take 16 ++ o) b) 16).1 ∧ sumN (key.take 16 ++ o) [] = o := by
  have hkB : Pl.By (key.take 16 ++ o) := By.app (By.take hk 16) ho
  have hll : (key.take 16 ++ o).length = 32 := by simp [hkl, hol]
  have hr : rK (key.take 16 ++ o) = rK key := by
    rw [rK_num hkB hll, rK_num hk hkl]
    congr 2
    rw [List.map_append, List.take_append_of_le_length (by simp [hkl]), List.map_take, List.take_take]
    simp
  have hd : (key.take 16 ++ o).drop 16 = o := by
    rw [List.drop_append, List.drop_of_length_le (by rw [List.length_take]; exact Nat.min_le_left _ _), List.length_take, hkl]
    simp
  constructor
  · rw [sum_val hk hkl ha, sum_val hk hkl hb, sum_val hkB hll ha, sum_val hkB hll hb, minus_byt, minus_byt, hr]
    congr 1
    omega
  · rw [sum_val hkB hll (fun x h => by simp at h), hd]
    have := byt_num ho
    rw [hol] at this
    rw [show (([] : List Int).length + 15) / 16 = 0 from rfl, poly, show (0 : Int) % pM + num o = num o by simp, this]
end Go.Proofs.Ytcjmbeikjinedaa
