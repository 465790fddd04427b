/- Plain: the reference's quarter is the program's. -/
import Derived.Test.YtakgcmponelbeaaDoorAmR
set_option linter.unusedVariables false
set_option linter.unusedSimpArgs false
namespace Go.Proofs.YtakgcmponelbeaaDoor.Sm
open Sx
set_option maxRecDepth 100000
theorem stepZ (b Z : Int) (hb : b = 0 ∨ b = 1) (hZ : 0 ≤ Z ∧ Z < 2147483648) : IntKind.u32.wrap (IntKind.u32.wrap ((b * 2147483648 + Z) * 2) + (b * 2147483648 + Z) / 2147483648) = 2 * Z + b := by
  rw [IntKind.wrap_u32, IntKind.wrap_u32]
  have h1 : (b * 2147483648 + Z) / 2147483648 = b := by rcases hb with rfl | rfl <;> omega
  have h2 : ((b * 2147483648 + Z) * 2) % 4294967296 = 2 * Z := by rcases hb with rfl | rfl <;> omega
  rw [h1, h2]
  rcases hb with rfl | rfl <;> omega

theorem turn_0 (q r : Int) (hq : 0 ≤ q ∧ q < 1) (hr : 0 ≤ r ∧ r < 4294967296) : turnN (q * 4294967296 + r) 0 = r * 1 + q := by rw [turnN]; omega
theorem turn_1 (q r : Int) (hq : 0 ≤ q ∧ q < 2) (hr : 0 ≤ r ∧ r < 2147483648) : turnN (q * 2147483648 + r) 1 = r * 2 + q := by
  have e : q * 2147483648 + r = (q / 2) * 4294967296 + (q % 2 * 2147483648 + r) := by omega
  have h := turn_0 (q / 2) (q % 2 * 2147483648 + r) (by omega) (by omega)
  have h2 : (q % 2 * 2147483648 + r) * 1 + q / 2 = q % 2 * 2147483648 + (r * 1 + q / 2) := by omega
  rw [turnN, e, h, h2, stepZ _ _ (by omega) (by omega)]
  omega
theorem turn_2 (q r : Int) (hq : 0 ≤ q ∧ q < 4) (hr : 0 ≤ r ∧ r < 1073741824) : turnN (q * 1073741824 + r) 2 = r * 4 + q := by
  have e : q * 1073741824 + r = (q / 2) * 2147483648 + (q % 2 * 1073741824 + r) := by omega
  have h := turn_1 (q / 2) (q % 2 * 1073741824 + r) (by omega) (by omega)
  have h2 : (q % 2 * 1073741824 + r) * 2 + q / 2 = q % 2 * 2147483648 + (r * 2 + q / 2) := by omega
  rw [turnN, e, h, h2, stepZ _ _ (by omega) (by omega)]
  omega
theorem turn_3 (q r : Int) (hq : 0 ≤ q ∧ q < 8) (hr : 0 ≤ r ∧ r < 536870912) : turnN (q * 536870912 + r) 3 = r * 8 + q := by
  have e : q * 536870912 + r = (q / 2) * 1073741824 + (q % 2 * 536870912 + r) := by omega
  have h := turn_2 (q / 2) (q % 2 * 536870912 + r) (by omega) (by omega)
  have h2 : (q % 2 * 536870912 + r) * 4 + q / 2 = q % 2 * 2147483648 + (r * 4 + q / 2) := by omega
  rw [turnN, e, h, h2, stepZ _ _ (by omega) (by omega)]
  omega
theorem turn_4 (q r : Int) (hq : 0 ≤ q ∧ q < 16) (hr : 0 ≤ r ∧ r < 268435456) : turnN (q * 268435456 + r) 4 = r * 16 + q := by
  have e : q * 268435456 + r = (q / 2) * 536870912 + (q % 2 * 268435456 + r) := by omega
  have h := turn_3 (q / 2) (q % 2 * 268435456 + r) (by omega) (by omega)
  have h2 : (q % 2 * 268435456 + r) * 8 + q / 2 = q % 2 * 2147483648 + (r * 8 + q / 2) := by omega
  rw [turnN, e, h, h2, stepZ _ _ (by omega) (by omega)]
  omega
theorem turn_5 (q r : Int) (hq : 0 ≤ q ∧ q < 32) (hr : 0 ≤ r ∧ r < 134217728) : turnN (q * 134217728 + r) 5 = r * 32 + q := by
  have e : q * 134217728 + r = (q / 2) * 268435456 + (q % 2 * 134217728 + r) := by omega
  have h := turn_4 (q / 2) (q % 2 * 134217728 + r) (by omega) (by omega)
  have h2 : (q % 2 * 134217728 + r) * 16 + q / 2 = q % 2 * 2147483648 + (r * 16 + q / 2) := by omega
  rw [turnN, e, h, h2, stepZ _ _ (by omega) (by omega)]
  omega
theorem turn_6 (q r : Int) (hq : 0 ≤ q ∧ q < 64) (hr : 0 ≤ r ∧ r < 67108864) : turnN (q * 67108864 + r) 6 = r * 64 + q := by
  have e : q * 67108864 + r = (q / 2) * 134217728 + (q % 2 * 67108864 + r) := by omega
  have h := turn_5 (q / 2) (q % 2 * 67108864 + r) (by omega) (by omega)
  have h2 : (q % 2 * 67108864 + r) * 32 + q / 2 = q % 2 * 2147483648 + (r * 32 + q / 2) := by omega
  rw [turnN, e, h, h2, stepZ _ _ (by omega) (by omega)]
  omega
theorem turn_7 (q r : Int) (hq : 0 ≤ q ∧ q < 128) (hr : 0 ≤ r ∧ r < 33554432) : turnN (q * 33554432 + r) 7 = r * 128 + q := by
  have e : q * 33554432 + r = (q / 2) * 67108864 + (q % 2 * 33554432 + r) := by omega
  have h := turn_6 (q / 2) (q % 2 * 33554432 + r) (by omega) (by omega)
  have h2 : (q % 2 * 33554432 + r) * 64 + q / 2 = q % 2 * 2147483648 + (r * 64 + q / 2) := by omega
  rw [turnN, e, h, h2, stepZ _ _ (by omega) (by omega)]
  omega
theorem turn_8 (q r : Int) (hq : 0 ≤ q ∧ q < 256) (hr : 0 ≤ r ∧ r < 16777216) : turnN (q * 16777216 + r) 8 = r * 256 + q := by
  have e : q * 16777216 + r = (q / 2) * 33554432 + (q % 2 * 16777216 + r) := by omega
  have h := turn_7 (q / 2) (q % 2 * 16777216 + r) (by omega) (by omega)
  have h2 : (q % 2 * 16777216 + r) * 128 + q / 2 = q % 2 * 2147483648 + (r * 128 + q / 2) := by omega
  rw [turnN, e, h, h2, stepZ _ _ (by omega) (by omega)]
  omega
theorem turn_9 (q r : Int) (hq : 0 ≤ q ∧ q < 512) (hr : 0 ≤ r ∧ r < 8388608) : turnN (q * 8388608 + r) 9 = r * 512 + q := by
  have e : q * 8388608 + r = (q / 2) * 16777216 + (q % 2 * 8388608 + r) := by omega
  have h := turn_8 (q / 2) (q % 2 * 8388608 + r) (by omega) (by omega)
  have h2 : (q % 2 * 8388608 + r) * 256 + q / 2 = q % 2 * 2147483648 + (r * 256 + q / 2) := by omega
  rw [turnN, e, h, h2, stepZ _ _ (by omega) (by omega)]
  omega
theorem turn_10 (q r : Int) (hq : 0 ≤ q ∧ q < 1024) (hr : 0 ≤ r ∧ r < 4194304) : turnN (q * 4194304 + r) 10 = r * 1024 + q := by
  have e : q * 4194304 + r = (q / 2) * 8388608 + (q % 2 * 4194304 + r) := by omega
  have h := turn_9 (q / 2) (q % 2 * 4194304 + r) (by omega) (by omega)
  have h2 : (q % 2 * 4194304 + r) * 512 + q / 2 = q % 2 * 2147483648 + (r * 512 + q / 2) := by omega
  rw [turnN, e, h, h2, stepZ _ _ (by omega) (by omega)]
  omega
theorem turn_11 (q r : Int) (hq : 0 ≤ q ∧ q < 2048) (hr : 0 ≤ r ∧ r < 2097152) : turnN (q * 2097152 + r) 11 = r * 2048 + q := by
  have e : q * 2097152 + r = (q / 2) * 4194304 + (q % 2 * 2097152 + r) := by omega
  have h := turn_10 (q / 2) (q % 2 * 2097152 + r) (by omega) (by omega)
  have h2 : (q % 2 * 2097152 + r) * 1024 + q / 2 = q % 2 * 2147483648 + (r * 1024 + q / 2) := by omega
  rw [turnN, e, h, h2, stepZ _ _ (by omega) (by omega)]
  omega
theorem turn_12 (q r : Int) (hq : 0 ≤ q ∧ q < 4096) (hr : 0 ≤ r ∧ r < 1048576) : turnN (q * 1048576 + r) 12 = r * 4096 + q := by
  have e : q * 1048576 + r = (q / 2) * 2097152 + (q % 2 * 1048576 + r) := by omega
  have h := turn_11 (q / 2) (q % 2 * 1048576 + r) (by omega) (by omega)
  have h2 : (q % 2 * 1048576 + r) * 2048 + q / 2 = q % 2 * 2147483648 + (r * 2048 + q / 2) := by omega
  rw [turnN, e, h, h2, stepZ _ _ (by omega) (by omega)]
  omega
theorem turn_13 (q r : Int) (hq : 0 ≤ q ∧ q < 8192) (hr : 0 ≤ r ∧ r < 524288) : turnN (q * 524288 + r) 13 = r * 8192 + q := by
  have e : q * 524288 + r = (q / 2) * 1048576 + (q % 2 * 524288 + r) := by omega
  have h := turn_12 (q / 2) (q % 2 * 524288 + r) (by omega) (by omega)
  have h2 : (q % 2 * 524288 + r) * 4096 + q / 2 = q % 2 * 2147483648 + (r * 4096 + q / 2) := by omega
  rw [turnN, e, h, h2, stepZ _ _ (by omega) (by omega)]
  omega
theorem turn_14 (q r : Int) (hq : 0 ≤ q ∧ q < 16384) (hr : 0 ≤ r ∧ r < 262144) : turnN (q * 262144 + r) 14 = r * 16384 + q := by
  have e : q * 262144 + r = (q / 2) * 524288 + (q % 2 * 262144 + r) := by omega
  have h := turn_13 (q / 2) (q % 2 * 262144 + r) (by omega) (by omega)
  have h2 : (q % 2 * 262144 + r) * 8192 + q / 2 = q % 2 * 2147483648 + (r * 8192 + q / 2) := by omega
  rw [turnN, e, h, h2, stepZ _ _ (by omega) (by omega)]
  omega
theorem turn_15 (q r : Int) (hq : 0 ≤ q ∧ q < 32768) (hr : 0 ≤ r ∧ r < 131072) : turnN (q * 131072 + r) 15 = r * 32768 + q := by
  have e : q * 131072 + r = (q / 2) * 262144 + (q % 2 * 131072 + r) := by omega
  have h := turn_14 (q / 2) (q % 2 * 131072 + r) (by omega) (by omega)
  have h2 : (q % 2 * 131072 + r) * 16384 + q / 2 = q % 2 * 2147483648 + (r * 16384 + q / 2) := by omega
  rw [turnN, e, h, h2, stepZ _ _ (by omega) (by omega)]
  omega
theorem turn_16 (q r : Int) (hq : 0 ≤ q ∧ q < 65536) (hr : 0 ≤ r ∧ r < 65536) : turnN (q * 65536 + r) 16 = r * 65536 + q := by
  have e : q * 65536 + r = (q / 2) * 131072 + (q % 2 * 65536 + r) := by omega
  have h := turn_15 (q / 2) (q % 2 * 65536 + r) (by omega) (by omega)
  have h2 : (q % 2 * 65536 + r) * 32768 + q / 2 = q % 2 * 2147483648 + (r * 32768 + q / 2) := by omega
  rw [turnN, e, h, h2, stepZ _ _ (by omega) (by omega)]
  omega
theorem rot_16 {x : Int} (hx : 0 ≤ x ∧ x < 4294967296) : rotN x 16 = turnN x 16 := by
  have ht : turnN x 16 = (x % 65536) * 65536 + x / 65536 := by
    have h := turn_16 (x / 65536) (x % 65536) (by omega) (by omega)
    rwa [show x / 65536 * 65536 + x % 65536 = x by omega] at h
  rw [ht, rotN]
  obtain ⟨a, rfl⟩ := Int.eq_ofNat_of_zero_le hx.1
  have e1 : IntKind.u32.wrap ((a : Int) * 2 ^ min 16 32) = ((2 ^ 16 * (a % 65536) : Nat) : Int) := by
    rw [IntKind.wrap_u32, show (2 : Int) ^ min 16 32 = 65536 from rfl]; omega
  have e2 : (a : Int).fdiv (2 ^ min (32 - 16) 32) = ((a / 65536 : Nat) : Int) := by
    rw [show (2 : Int) ^ min (32 - 16) 32 = 65536 from rfl, Int.fdiv_eq_ediv_of_nonneg _ (by omega)]; omega
  rw [e1, e2, bits_or rfl (by simp [IntKind.bits]; omega) (by simp [IntKind.bits]; omega), ← Nat.two_pow_add_eq_or_of_lt (by omega)]
  omega
theorem rot_12 {x : Int} (hx : 0 ≤ x ∧ x < 4294967296) : rotN x 12 = turnN x 12 := by
  have ht : turnN x 12 = (x % 1048576) * 4096 + x / 1048576 := by
    have h := turn_12 (x / 1048576) (x % 1048576) (by omega) (by omega)
    rwa [show x / 1048576 * 1048576 + x % 1048576 = x by omega] at h
  rw [ht, rotN]
  obtain ⟨a, rfl⟩ := Int.eq_ofNat_of_zero_le hx.1
  have e1 : IntKind.u32.wrap ((a : Int) * 2 ^ min 12 32) = ((2 ^ 12 * (a % 1048576) : Nat) : Int) := by
    rw [IntKind.wrap_u32, show (2 : Int) ^ min 12 32 = 4096 from rfl]; omega
  have e2 : (a : Int).fdiv (2 ^ min (32 - 12) 32) = ((a / 1048576 : Nat) : Int) := by
    rw [show (2 : Int) ^ min (32 - 12) 32 = 1048576 from rfl, Int.fdiv_eq_ediv_of_nonneg _ (by omega)]; omega
  rw [e1, e2, bits_or rfl (by simp [IntKind.bits]; omega) (by simp [IntKind.bits]; omega), ← Nat.two_pow_add_eq_or_of_lt (by omega)]
  omega
theorem rot_8 {x : Int} (hx : 0 ≤ x ∧ x < 4294967296) : rotN x 8 = turnN x 8 := by
  have ht : turnN x 8 = (x % 16777216) * 256 + x / 16777216 := by
    have h := turn_8 (x / 16777216) (x % 16777216) (by omega) (by omega)
    rwa [show x / 16777216 * 16777216 + x % 16777216 = x by omega] at h
  rw [ht, rotN]
  obtain ⟨a, rfl⟩ := Int.eq_ofNat_of_zero_le hx.1
  have e1 : IntKind.u32.wrap ((a : Int) * 2 ^ min 8 32) = ((2 ^ 8 * (a % 16777216) : Nat) : Int) := by
    rw [IntKind.wrap_u32, show (2 : Int) ^ min 8 32 = 256 from rfl]; omega
  have e2 : (a : Int).fdiv (2 ^ min (32 - 8) 32) = ((a / 16777216 : Nat) : Int) := by
    rw [show (2 : Int) ^ min (32 - 8) 32 = 16777216 from rfl, Int.fdiv_eq_ediv_of_nonneg _ (by omega)]; omega
  rw [e1, e2, bits_or rfl (by simp [IntKind.bits]; omega) (by simp [IntKind.bits]; omega), ← Nat.two_pow_add_eq_or_of_lt (by omega)]
  omega
theorem rot_7 {x : Int} (hx : 0 ≤ x ∧ x < 4294967296) : rotN x 7 = turnN x 7 := by
  have ht : turnN x 7 = (x % 33554432) * 128 + x / 33554432 := by
    have h := turn_7 (x / 33554432) (x % 33554432) (by omega) (by omega)
    rwa [show x / 33554432 * 33554432 + x % 33554432 = x by omega] at h
  rw [ht, rotN]
  obtain ⟨a, rfl⟩ := Int.eq_ofNat_of_zero_le hx.1
  have e1 : IntKind.u32.wrap ((a : Int) * 2 ^ min 7 32) = ((2 ^ 7 * (a % 33554432) : Nat) : Int) := by
    rw [IntKind.wrap_u32, show (2 : Int) ^ min 7 32 = 128 from rfl]; omega
  have e2 : (a : Int).fdiv (2 ^ min (32 - 7) 32) = ((a / 33554432 : Nat) : Int) := by
    rw [show (2 : Int) ^ min (32 - 7) 32 = 33554432 from rfl, Int.fdiv_eq_ediv_of_nonneg _ (by omega)]; omega
  rw [e1, e2, bits_or rfl (by simp [IntKind.bits]; omega) (by simp [IntKind.bits]; omega), ← Nat.two_pow_add_eq_or_of_lt (by omega)]
  omega
def R32 (w : List Int) : Prop := ∀ i, 0 ≤ w.getD i 0 ∧ w.getD i 0 < 4294967296
theorem R32.set {w : List Int} (h : R32 w) (k : Nat) {v : Int} (hv : 0 ≤ v ∧ v < 4294967296) : R32 (w.set k v) := by
  intro i
  by_cases hi : k = i
  · subst hi
    by_cases hl : k < w.length
    · rw [getD_set_self hl]; exact hv
    · rw [List.set_eq_of_length_le (by omega)]; exact h k
  · rw [getD_set_ne hi]; exact h i
theorem qd_ok (d a : Int) (n : Nat) : 0 ≤ qd d a n ∧ qd d a n < 4294967296 := turnN_ok (xor32 d a) n
theorem qa_ok (a b : Int) : 0 ≤ qa a b ∧ qa a b < 4294967296 := wrap32 _
theorem qStep_eq {w : List Int} {a b c d r1 r2 : Nat} (hl : w.length = 16) (ha : a < 16) (hb : b < 16) (hc : c < 16) (hd : d < 16) (hab : a ≠ b) (hac : a ≠ c) (had : a ≠ d) (hbc : b ≠ c) (hbd : b ≠ d) (hcd : c ≠ d)
    (h1 : ∀ x : Int, 0 ≤ x ∧ x < 4294967296 → rotN x r1 = turnN x r1) (h2 : ∀ x : Int, 0 ≤ x ∧ x < 4294967296 → rotN x r2 = turnN x r2) :
    qStep w a b c d r1 r2 = (((w.set a (qa (w.getD a 0) (w.getD b 0))).set d (qd (w.getD d 0) (qa (w.getD a 0) (w.getD b 0)) r1)).set c (qa (w.getD c 0) (qd (w.getD d 0) (qa (w.getD a 0) (w.getD b 0)) r1))).set b (qd (w.getD b 0) (qa (w.getD c 0) (qd (w.getD d 0) (qa (w.getD a 0) (w.getD b 0)) r1)) r2) := by
  unfold qStep
  simp only
  rw [h1 _ (xor32 _ _), h2 _ (xor32 _ _)]
  have la : a < (w.set a (IntKind.u32.wrap (w.getD a 0 + w.getD b 0))).length := by simp [hl, ha]
  simp only [getD_set_ne had, getD_set_ne hac, getD_set_ne hab, getD_set_ne hcd.symm, getD_set_ne hbd.symm, getD_set_ne hbc.symm, getD_set_ne had.symm, getD_set_self (show a < w.length by omega),
    getD_set_self (show d < (w.set a (IntKind.u32.wrap (w.getD a 0 + w.getD b 0))).length by simp [hl, hd]), List.length_set, getD_set_self (xs := (w.set a (IntKind.u32.wrap (w.getD a 0 + w.getD b 0))).set d _) (k := c) (by simp [hl, hc])]
  rfl
theorem set4_get {w : List Int} {a b c d : Nat} (hl : w.length = 16) (ha : a < 16) (hb : b < 16) (hc : c < 16) (hd : d < 16) (hab : a ≠ b) (hac : a ≠ c) (had : a ≠ d) (hbc : b ≠ c) (hbd : b ≠ d) (hcd : c ≠ d) (A B C D : Int) :
    ((((w.set a A).set b B).set c C).set d D).getD a 0 = A ∧ ((((w.set a A).set b B).set c C).set d D).getD b 0 = B ∧ ((((w.set a A).set b B).set c C).set d D).getD c 0 = C ∧ ((((w.set a A).set b B).set c C).set d D).getD d 0 = D ∧
      ∀ i, i ≠ a → i ≠ b → i ≠ c → i ≠ d → ((((w.set a A).set b B).set c C).set d D).getD i 0 = w.getD i 0 := by
  refine ⟨?_, ?_, ?_, ?_, fun i h1 h2 h3 h4 => ?_⟩
  · rw [getD_set_ne had.symm, getD_set_ne hac.symm, getD_set_ne hab.symm, getD_set_self (by omega)]
  · rw [getD_set_ne hbd.symm, getD_set_ne hbc.symm, getD_set_self (by simp [hl]; omega)]
  · rw [getD_set_ne hcd.symm, getD_set_self (by simp [hl]; omega)]
  · rw [getD_set_self (by simp [hl]; omega)]
  · rw [getD_set_ne h4.symm, getD_set_ne h3.symm, getD_set_ne h2.symm, getD_set_ne h1.symm]
theorem qrt_eq {w : List Int} {i j k l : Nat} (hl : w.length = 16) (ha : i < 16) (hb : j < 16) (hc : k < 16) (hd : l < 16) (hab : i ≠ j) (hac : i ≠ k) (had : i ≠ l) (hbc : j ≠ k) (hbd : j ≠ l) (hcd : k ≠ l) : qrR w i j k l = qrt w i j k l := by
  have e1 := qStep_eq (w := w) hl ha hb hc hd hab hac had hbc hbd hcd (fun x hx => rot_16 hx) (fun x hx => rot_12 hx)
  have hl1 : (qStep w i j k l 16 12).length = 16 := by rw [qStep_len, hl]
  have e2 := qStep_eq (w := qStep w i j k l 16 12) hl1 ha hb hc hd hab hac had hbc hbd hcd (fun x hx => rot_8 hx) (fun x hx => rot_7 hx)
  obtain ⟨g1, g2, g3, g4, g5⟩ := set4_get (w := w) (a := i) (b := l) (c := k) (d := j) hl ha hd hc hb had hac hab hcd.symm hbd.symm hbc.symm (qa (w.getD i 0) (w.getD j 0)) (qd (w.getD l 0) (qa (w.getD i 0) (w.getD j 0)) 16)
    (qa (w.getD k 0) (qd (w.getD l 0) (qa (w.getD i 0) (w.getD j 0)) 16)) (qd (w.getD j 0) (qa (w.getD k 0) (qd (w.getD l 0) (qa (w.getD i 0) (w.getD j 0)) 16)) 12)
  rw [← e1] at g1 g2 g3 g4 g5
  rw [qrt, e2, g1, g2, g3, g4]
  have hq : (qStep w i j k l 16 12).length = 16 := hl1
  unfold qrR
  simp only
  generalize qa (qa (w.getD i 0) (w.getD j 0)) (qd (w.getD j 0) (qa (w.getD k 0) (qd (w.getD l 0) (qa (w.getD i 0) (w.getD j 0)) 16)) 12) = A
  generalize qd (qd (w.getD l 0) (qa (w.getD i 0) (w.getD j 0)) 16) A 8 = D
  generalize qa (qa (w.getD k 0) (qd (w.getD l 0) (qa (w.getD i 0) (w.getD j 0)) 16)) D = C
  generalize qd (qd (w.getD j 0) (qa (w.getD k 0) (qd (w.getD l 0) (qa (w.getD i 0) (w.getD j 0)) 16)) 12) C 7 = B
  obtain ⟨p1, p2, p3, p4, p5⟩ := set4_get (w := w) (a := i) (b := j) (c := k) (d := l) hl ha hb hc hd hab hac had hbc hbd hcd A B C D
  obtain ⟨q1, q2, q3, q4, q5⟩ := set4_get (w := qStep w i j k l 16 12) (a := i) (b := l) (c := k) (d := j) hq ha hd hc hb had hac hab hcd.symm hbd.symm hbc.symm A D C B
  refine ext_getD (by simp [hl, hq]) (fun x hx => ?_)
  by_cases x1 : x = i
  · subst x1; rw [p1, q1]
  by_cases x2 : x = j
  · subst x2; rw [p2, q4]
  by_cases x3 : x = k
  · subst x3; rw [p3, q3]
  by_cases x4 : x = l
  · subst x4; rw [p4, q2]
  rw [p5 x x1 x2 x3 x4, q5 x x1 x4 x3 x2, g5 x x1 x4 x3 x2]
theorem word4_eq {xs : List Int} (h : ∀ i, 0 ≤ xs.getD i 0 ∧ xs.getD i 0 < 256) : word4R xs = word4 xs := by
  obtain ⟨a, ha, ha'⟩ := byte_nat (h 0)
  obtain ⟨b, hb, hb'⟩ := byte_nat (h 1)
  obtain ⟨c, hc, hc'⟩ := byte_nat (h 2)
  obtain ⟨d, hd, hd'⟩ := byte_nat (h 3)
  unfold word4R word4
  rw [ha, hb, hc, hd]
  have e0 : IntKind.u32.wrap (a : Int) = (a : Int) := by rw [IntKind.wrap_u32]; omega
  have e1 : IntKind.u32.wrap (b : Int) = (b : Int) := by rw [IntKind.wrap_u32]; omega
  have e2 : IntKind.u32.wrap (c : Int) = (c : Int) := by rw [IntKind.wrap_u32]; omega
  have e3 : IntKind.u32.wrap (d : Int) = (d : Int) := by rw [IntKind.wrap_u32]; omega
  have f1 : IntKind.u32.wrap ((b : Int) * 2 ^ min 8 IntKind.u32.bits) = ((2 ^ 8 * b : Nat) : Int) := by rw [show (2 : Int) ^ min 8 IntKind.u32.bits = 256 from rfl, IntKind.wrap_u32]; omega
  have f2 : IntKind.u32.wrap ((c : Int) * 2 ^ min 16 IntKind.u32.bits) = ((2 ^ 16 * c : Nat) : Int) := by rw [show (2 : Int) ^ min 16 IntKind.u32.bits = 65536 from rfl, IntKind.wrap_u32]; omega
  have f3 : IntKind.u32.wrap ((d : Int) * 2 ^ min 24 IntKind.u32.bits) = ((2 ^ 24 * d : Nat) : Int) := by rw [show (2 : Int) ^ min 24 IntKind.u32.bits = 16777216 from rfl, IntKind.wrap_u32]; omega
  rw [e0, e1, e2, e3, f1, f2, f3]
  have o1 : bits .or .u32 (a : Int) ((2 ^ 8 * b : Nat) : Int) = ((2 ^ 8 * b + a : Nat) : Int) := by
    rw [bits_or rfl (by simp [IntKind.bits]; omega) (by simp [IntKind.bits]; omega), Nat.or_comm, ← Nat.two_pow_add_eq_or_of_lt (by omega)]
  have o2 : bits .or .u32 ((2 ^ 8 * b + a : Nat) : Int) ((2 ^ 16 * c : Nat) : Int) = ((2 ^ 16 * c + (2 ^ 8 * b + a) : Nat) : Int) := by
    rw [bits_or rfl (by simp [IntKind.bits]; omega) (by simp [IntKind.bits]; omega), Nat.or_comm, ← Nat.two_pow_add_eq_or_of_lt (by omega)]
  have o3 : bits .or .u32 ((2 ^ 16 * c + (2 ^ 8 * b + a) : Nat) : Int) ((2 ^ 24 * d : Nat) : Int) = ((2 ^ 24 * d + (2 ^ 16 * c + (2 ^ 8 * b + a)) : Nat) : Int) := by
    rw [bits_or rfl (by simp [IntKind.bits]; omega) (by simp [IntKind.bits]; omega), Nat.or_comm, ← Nat.two_pow_add_eq_or_of_lt (by omega)]
  rw [o1, o2, o3]
  simp only [IntKind.wrap_u32]
  omega
end Go.Proofs.YtakgcmponelbeaaDoor.Sm
