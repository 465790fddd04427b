/- Plain: what is turned. -/
import Derived.Test.YtakgcmponelbeaaDoorAmC
import Derived.Test.YtakgcmponelbeaaDoorPlB
set_option linter.unusedVariables false
set_option linter.unusedSimpArgs false
namespace Go.Proofs.YtakgcmponelbeaaDoor.Sm
open Sx
set_option maxRecDepth 100000
theorem getD_set_self {xs : List Int} {k : Nat} (h : k < xs.length) (v : Int) : (xs.set k v).getD k 0 = v := by
  simp [List.getD_eq_getElem?_getD, h]
theorem getD_set_ne {xs : List Int} {k i : Nat} (h : k ≠ i) (v : Int) : (xs.set k v).getD i 0 = xs.getD i 0 := by
  simp [List.getD_eq_getElem?_getD, List.getElem?_set, h]
theorem ext_getD {l l' : List Int} (h : l.length = l'.length) (he : ∀ i, i < l.length → l.getD i 0 = l'.getD i 0) : l = l' := by
  apply List.ext_getElem h
  intro i h1 h2
  have := he i h1
  simpa [List.getD_eq_getElem?_getD, h1, h2] using this
theorem getD_take {xs : List Int} {n i : Nat} (h : i < n) : (xs.take n).getD i 0 = xs.getD i 0 := by
  simp [List.getD_eq_getElem?_getD, List.getElem?_take, h]
theorem getD_drop {xs : List Int} {n i : Nat} : (xs.drop n).getD i 0 = xs.getD (n + i) 0 := by
  simp [List.getD_eq_getElem?_getD, List.getElem?_drop]
theorem outB_ok (x w : List Int) : ∀ n i, 0 ≤ (outB x w n).getD i 0 ∧ (outB x w n).getD i 0 < 256
  | 0, i => by simp only [outB, List.getD_eq_getElem?_getD, List.getElem?_replicate]; split <;> simp
  | n + 1, i => by
    rw [outB]
    by_cases hi : i = n
    · subst hi
      by_cases hl : i < (outB x w i).length
      · rw [getD_set_self hl, IntKind.wrap_u8]; omega
      · rw [List.set_eq_of_length_le (by omega)]; exact outB_ok x w i i
    · rw [getD_set_ne (fun e => hi e.symm)]; exact outB_ok x w n i
def kk (key nonce : List Int) (count : Int) (i : Nat) : Int := (kS key nonce count (i / 64)).getD (i % 64) 0
theorem kk_ok (key nonce : List Int) (count : Int) (i : Nat) : 0 ≤ kk key nonce count i ∧ kk key nonce count i < 256 := outB_ok _ _ _ _
theorem xorO_get (key nonce : List Int) (count : Int) (b : List Int) : ∀ n, n ≤ b.length → ∀ i, i < n → (xorO key nonce count b n).getD i 0 = bits .xor .u8 (b.getD i 0) (kk key nonce count i)
  | 0, _, i, h => by omega
  | n + 1, hn, i, h => by
    rw [xorO]
    by_cases hi : i = n
    · subst hi
      exact getD_set_self (by rw [xorO_len]; omega) _
    · rw [getD_set_ne (fun e => hi e.symm)]
      exact xorO_get key nonce count b n (by omega) i (by omega)
theorem x_nat {x y : Int} (hx : 0 ≤ x ∧ x < 256) (hy : 0 ≤ y ∧ y < 256) : bits .xor .u8 x y = ((x.toNat ^^^ y.toNat : Nat) : Int) ∧ x.toNat ^^^ y.toNat < 256 := by
  obtain ⟨a, rfl, ha⟩ := byte_nat hx
  obtain ⟨b, rfl, hb⟩ := byte_nat hy
  rw [bits_xor rfl (by simpa [IntKind.bits] using ha) (by simpa [IntKind.bits] using hb)]
  exact ⟨by simp, Nat.xor_lt_two_pow (n := 8) (by simpa using ha) (by simpa using hb)⟩
theorem x_back {x y : Int} (hx : 0 ≤ x ∧ x < 256) (hy : 0 ≤ y ∧ y < 256) : bits .xor .u8 (bits .xor .u8 x y) y = x := by
  obtain ⟨h1, h2⟩ := x_nat hx hy
  have h3 : 0 ≤ bits .xor .u8 x y ∧ bits .xor .u8 x y < 256 := by rw [h1]; omega
  obtain ⟨h4, _⟩ := x_nat h3 hy
  rw [h4, h1, Int.toNat_natCast, Nat.xor_assoc, Nat.xor_self, Nat.xor_zero]
  omega
theorem x_sum {x y z : Int} (hx : 0 ≤ x ∧ x < 256) (hy : 0 ≤ y ∧ y < 256) (hz : 0 ≤ z ∧ z < 256) : bits .xor .u8 (bits .xor .u8 x z) (bits .xor .u8 y z) = bits .xor .u8 x y := by
  obtain ⟨h1, h2⟩ := x_nat hx hz
  obtain ⟨h3, h4⟩ := x_nat hy hz
  have h5 : 0 ≤ bits .xor .u8 x z ∧ bits .xor .u8 x z < 256 := by rw [h1]; omega
  have h6 : 0 ≤ bits .xor .u8 y z ∧ bits .xor .u8 y z < 256 := by rw [h3]; omega
  obtain ⟨h7, _⟩ := x_nat h5 h6
  obtain ⟨h8, _⟩ := x_nat hx hy
  rw [h7, h8, h1, h3, Int.toNat_natCast, Int.toNat_natCast]
  congr 1
  rw [Nat.xor_assoc, Nat.xor_comm y.toNat z.toNat, ← Nat.xor_assoc z.toNat, Nat.xor_self, Nat.zero_xor]
theorem sums_plain {key nonce a b : List Int} {count : Int} (hA : Bt a) (hB : Bt b) (i : Nat) (h1 : i < a.length) (h2 : i < b.length) :
    bits .xor .u8 ((xorO key nonce count a a.length).getD i 0) ((xorO key nonce count b b.length).getD i 0) = bits .xor .u8 (a.getD i 0) (b.getD i 0) := by
  rw [xorO_get _ _ _ _ _ (Nat.le_refl _) i h1, xorO_get _ _ _ _ _ (Nat.le_refl _) i h2]
  exact x_sum (hA i) (hB i) (kk_ok _ _ _ _)
theorem blocks_plain {key nonce b : List Int} {count : Int} (i : Nat) (h : i < b.length) : (xorO key nonce count b b.length).getD i 0 = bits .xor .u8 (b.getD i 0) ((kS key nonce count (i / 64)).getD (i % 64) 0) :=
  xorO_get _ _ _ _ _ (Nat.le_refl _) i h
theorem back_plain1 {key nonce b : List Int} {count : Int} (hB : Bt b) : xorO key nonce count (xorO key nonce count b b.length) (xorO key nonce count b b.length).length = b := by
  have hl := xorO_len key nonce count b b.length
  refine ext_getD (by rw [xorO_len, xorO_len]) (fun i hi => ?_)
  rw [xorO_len, hl] at hi
  rw [xorO_get _ _ _ _ _ (Nat.le_refl _) i (by omega), xorO_get _ _ _ _ _ (Nat.le_refl _) i hi]
  exact x_back (hB i) (kk_ok _ _ _ _)
theorem back_plain2 {key nonce b : List Int} {count : Int} (k : Nat) (hk : k ≤ b.length) :
    xorO key nonce count ((b.take k).drop 0) ((b.take k).drop 0).length = ((xorO key nonce count b b.length).take k).drop 0 := by
  have hl := xorO_len key nonce count b b.length
  rw [List.drop_zero, List.drop_zero]
  refine ext_getD (by rw [xorO_len, List.length_take, List.length_take, hl]) (fun i hi => ?_)
  rw [xorO_len, List.length_take] at hi
  rw [xorO_get _ _ _ _ _ (Nat.le_refl _) i (by rw [List.length_take]; omega), getD_take (by omega), getD_take (by omega), xorO_get _ _ _ _ _ (Nat.le_refl _) i (by omega)]
theorem kS_shift (key nonce : List Int) (count : Int) (j i : Nat) : kS key nonce (count + j) i = kS key nonce count (j + i) := by
  unfold kS
  congr 1
  rw [IntKind.wrap_u32, IntKind.wrap_u32, IntKind.wrap_u32, IntKind.wrap_u32]
  omega
theorem back_plain3 {key nonce b : List Int} {count : Int} (j : Nat) (hj : 64 * j ≤ b.length) :
    xorO key nonce (count + j) (b.drop (64 * j)) (b.drop (64 * j)).length = (xorO key nonce count b b.length).drop (64 * j) := by
  have hl := xorO_len key nonce count b b.length
  refine ext_getD (by rw [xorO_len, List.length_drop, List.length_drop, hl]) (fun i hi => ?_)
  rw [xorO_len, List.length_drop] at hi
  rw [xorO_get _ _ _ _ _ (Nat.le_refl _) i (by rw [List.length_drop]; omega), getD_drop, getD_drop, xorO_get _ _ _ _ _ (Nat.le_refl _) _ (by omega)]
  unfold kk
  rw [kS_shift, show (64 * j + i) / 64 = j + i / 64 by omega, show (64 * j + i) % 64 = i % 64 by omega]
end Go.Proofs.YtakgcmponelbeaaDoor.Sm
