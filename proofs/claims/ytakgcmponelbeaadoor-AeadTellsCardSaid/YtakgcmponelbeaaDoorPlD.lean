/- Plain: one product of Poly1305, in words. -/
import Derived.Test.YtakgcmponelbeaaDoorPlC
import Derived.Test.YtakgcmponelbeaaDoorPlB
set_option linter.unusedVariables false
set_option linter.unusedSimpArgs false
namespace Pl
open Go Sx
theorem mulV (x0 x1 x2 y0 y1 : Int) : (x0 + 18446744073709551616 * x1 + 340282366920938463463374607431768211456 * x2) * (y0 + 18446744073709551616 * y1) =
  x0 * y0 + 18446744073709551616 * (x0 * y1) + 18446744073709551616 * (x1 * y0) + 340282366920938463463374607431768211456 * (x1 * y1) + 340282366920938463463374607431768211456 * (x2 * y0) + 6277101735386680763835789423207666416102355444464034512896 * (x2 * y1) := by
  grind
theorem steps (p00 p01 p10 p11 p20 p21 : Int)
   (h00 : 0 ≤ p00 ∧ p00 ≤ 340282366920938463426481119284349108225) (h01 : 0 ≤ p01 ∧ p01 ≤ 340282366920938463426481119284349108225) (h10 : 0 ≤ p10 ∧ p10 ≤ 340282366920938463426481119284349108225) (h11 : 0 ≤ p11 ∧ p11 ≤ 340282366920938463426481119284349108225)
   (h20 : 0 ≤ p20 ∧ p20 ≤ 340282366920938463426481119284349108225) (h21 : 0 ≤ p21 ∧ p21 ≤ 340282366920938463426481119284349108225) 
   (d0 c0 d1 c1 w2 d3 c3 d4 c4 w3 d5 c5 d6 c6 w4 : Int)
   (e0 : d0 = p00 % 18446744073709551616) (f0 : c0 = p00 / 18446744073709551616) (e1 : d1 = (p01 + c0) % 18446744073709551616) (f1 : c1 = (p01 + c0) / 18446744073709551616) (g2 : w2 = c1 % 18446744073709551616)
   (e3 : d3 = (p10 + d1) % 18446744073709551616) (f3 : c3 = (p10 + d1) / 18446744073709551616) (e4 : d4 = (p11 + w2 + c3) % 18446744073709551616) (f4 : c4 = (p11 + w2 + c3) / 18446744073709551616) (g3 : w3 = c4 % 18446744073709551616)
   (e5 : d5 = (p20 + d4) % 18446744073709551616) (f5 : c5 = (p20 + d4) / 18446744073709551616) (e6 : d6 = (p21 + w3 + c5) % 18446744073709551616) (f6 : c6 = (p21 + w3 + c5) / 18446744073709551616) (g4 : w4 = c6 % 18446744073709551616) :
   d0 + 18446744073709551616 * d3 + 340282366920938463463374607431768211456 * d5 + 6277101735386680763835789423207666416102355444464034512896 * d6 + 115792089237316195423570985008687907853269984665640564039457584007913129639936 * w4 =
     p00 + 18446744073709551616 * p01 + 18446744073709551616 * p10 + 340282366920938463463374607431768211456 * p11 + 340282366920938463463374607431768211456 * p20 + 6277101735386680763835789423207666416102355444464034512896 * p21 := by
  have k1 : w2 = c1 := by omega
  have k2 : w3 = c4 := by omega
  have k3 : w4 = c6 := by omega
  omega
def W64 (x : Int) : Prop := 0 ≤ x ∧ x < 18446744073709551616
theorem prod_le {x y : Int} (hx : W64 x) (hy : W64 y) : 0 ≤ x * y ∧ x * y ≤ 340282366920938463426481119284349108225 := by
  have h1 : x * y ≤ 18446744073709551615 * 18446744073709551615 := Int.mul_le_mul (by have := hx.2; omega) (by have := hy.2; omega) hy.1 (by omega)
  exact ⟨Int.mul_nonneg hx.1 hy.1, by omega⟩
theorem and3 {x : Int} (hx : W64 x) : bits .and .u64 x 3 = x % 4 := by
  obtain ⟨a, rfl⟩ := Int.eq_ofNat_of_zero_le hx.1
  have ha : a < 18446744073709551616 := by have := hx.2; omega
  rw [show (3 : Int) = ((3 : Nat) : Int) from rfl, bits_and rfl (by simpa [IntKind.bits] using ha) (by simp [IntKind.bits]), show (3 : Nat) = 2 ^ 2 - 1 from rfl, Nat.and_two_pow_sub_one_eq_mod]
  omega
theorem nat_andNot3 (a : Nat) (ha : a < 18446744073709551616) : a &&& 18446744073709551612 = a - a % 4 := by
  have hr : a % 4 < 2 ^ 2 := Nat.mod_lt _ (by omega)
  have e1 : a = 2 ^ 2 * (a / 4) ||| a % 4 := by rw [← Nat.two_pow_add_eq_or_of_lt hr]; omega
  have e2 : (18446744073709551612 : Nat) = (2 ^ 62 - 1) <<< 2 := by decide
  have e3 : 2 ^ 2 * (a / 4) = (a / 4) <<< 2 := by rw [Nat.shiftLeft_eq]; omega
  have e4 : (a % 4) &&& 18446744073709551612 = 0 := by
    have : a % 4 = 0 ∨ a % 4 = 1 ∨ a % 4 = 2 ∨ a % 4 = 3 := by omega
    rcases this with h | h | h | h <;> rw [h] <;> decide
  have e5 : a &&& 18446744073709551612 = (2 ^ 2 * (a / 4) &&& 18446744073709551612) ||| (a % 4 &&& 18446744073709551612) := by
    rw [← Nat.and_or_distrib_right, ← e1]
  rw [e5, e4, Nat.or_zero, e3, e2, ← Nat.shiftLeft_and_distrib, Nat.and_two_pow_sub_one_eq_mod, Nat.mod_eq_of_lt (by omega), Nat.shiftLeft_eq]
  omega
theorem andNot3 {x : Int} (hx : W64 x) : bits .andNot .u64 x 3 = x - x % 4 := by
  obtain ⟨a, rfl⟩ := Int.eq_ofNat_of_zero_le hx.1
  have ha : a < 18446744073709551616 := by have := hx.2; omega
  show IntKind.u64.wrap ((BitVec.ofInt 64 (a : Int) &&& ~~~ BitVec.ofInt 64 3).toNat : Int) = _
  rw [BitVec.toNat_and, show (~~~ BitVec.ofInt 64 3).toNat = 18446744073709551612 from by decide]
  rw [show (BitVec.ofInt 64 (a : Int)).toNat = a from bv_nat (k := .u64) (by simpa [IntKind.bits] using ha), nat_andNot3 a ha, IntKind.wrap_u64]
  omega
theorem shr2 {x : Int} (hx : W64 x) : x.fdiv (2 ^ min 2 IntKind.u64.bits) = x / 4 := by
  rw [show (2 : Int) ^ min 2 IntKind.u64.bits = 4 from rfl, Int.fdiv_eq_ediv_of_nonneg _ (by omega)]
theorem orShift {x y : Int} (hx : W64 x) (hy : W64 y) : bits .or .u64 (x / 4) (IntKind.u64.wrap (y * 2 ^ min 62 IntKind.u64.bits)) = x / 4 + 4611686018427387904 * (y % 4) := by
  obtain ⟨a, rfl⟩ := Int.eq_ofNat_of_zero_le hx.1
  obtain ⟨b, rfl⟩ := Int.eq_ofNat_of_zero_le hy.1
  have ha : a < 18446744073709551616 := by have := hx.2; omega
  have hb : b < 18446744073709551616 := by have := hy.2; omega
  have e1 : IntKind.u64.wrap ((b : Int) * 2 ^ min 62 IntKind.u64.bits) = ((2 ^ 62 * (b % 4) : Nat) : Int) := by
    rw [IntKind.wrap_u64, show (2 : Int) ^ min 62 IntKind.u64.bits = 4611686018427387904 from rfl]; omega
  have e2 : ((a : Int) / 4) = ((a / 4 : Nat) : Int) := by omega
  rw [e1, e2, bits_or rfl (by simp [IntKind.bits]; omega) (by simp [IntKind.bits]; omega), Nat.or_comm, ← Nat.two_pow_add_eq_or_of_lt (by omega)]
  omega
/-- The last sum of a product. -/
theorem low_four_one (w0 w1 w2 w3 w4 T : Int) (h0 : W64 w0) (h1 : W64 w1) (h2 : W64 w2) (h3 : W64 w3) (h4 : W64 w4)
    (hT : w0 + 18446744073709551616 * w1 + 340282366920938463463374607431768211456 * w2 + 6277101735386680763835789423207666416102355444464034512896 * w3 + 115792089237316195423570985008687907853269984665640564039457584007913129639936 * w4 = T)
    (hlt : T < 115792089237316195423570985008687907853269984665640564039457584007913129639936) :
    ∃ Q : Int, 0 ≤ Q ∧ (w0 + 18446744073709551616 * w1 + 340282366920938463463374607431768211456 * (w2 % 4)) + ((w2 - w2 % 4) + 18446744073709551616 * w3 + 340282366920938463463374607431768211456 * w4) + ((w2 / 4 + 4611686018427387904 * (w3 % 4)) + 18446744073709551616 * (w3 / 4 + 4611686018427387904 * (w4 % 4)) + 340282366920938463463374607431768211456 * (w4 / 4)) = T - 1361129467683753853853498429727072845819 * Q ∧
      T - 1361129467683753853853498429727072845819 * Q < 2722258935367507707706996859454145691648 ∧ 0 ≤ T - 1361129467683753853853498429727072845819 * Q := by
  refine ⟨(w2 / 4 + 4611686018427387904 * (w3 % 4)) + 18446744073709551616 * (w3 / 4 + 4611686018427387904 * (w4 % 4)) + 340282366920938463463374607431768211456 * (w4 / 4), ?_⟩
  unfold W64 at *
  omega
end Pl
