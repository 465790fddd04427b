/- Words of 32 bits: the document's turn, shift and words are the code's (plain). -/
import Derived.Test.YtageadccfdbmjaaDoorRsN
import Derived.Test.YtageadccfdbmjaaDoorShG
set_option linter.unusedVariables false
set_option linter.unusedSimpArgs false
namespace Go.Proofs.YtageadccfdbmjaaDoor
open Sx
set_option maxRecDepth 100000
set_option maxHeartbeats 1000000
theorem w32_nat {n : Nat} (h : n < 4294967296) : IntKind.u32.wrap (n : Int) = n := by rw [IntKind.wrap_u32]; omega
/-- A turn, told by a quotient and a rest. -/
def tR (v k : Nat) : Nat := v / 2 ^ k + v % 2 ^ k * 2 ^ (32 - k)
theorem tR_lt {v k : Nat} (hv : v < 2 ^ 32) (hk : k ≤ 32) : tR v k < 2 ^ 32 := by
  have e : 2 ^ 32 = 2 ^ k * 2 ^ (32 - k) := by rw [← Nat.pow_add]; congr 1; omega
  have h1 : v / 2 ^ k < 2 ^ (32 - k) := by rw [Nat.div_lt_iff_lt_mul (Nat.two_pow_pos k), Nat.mul_comm, ← e]; exact hv
  have h2 : v % 2 ^ k < 2 ^ k := Nat.mod_lt _ (Nat.two_pow_pos k)
  have h3 : (v % 2 ^ k + 1) * 2 ^ (32 - k) ≤ 2 ^ k * 2 ^ (32 - k) := Nat.mul_le_mul_right _ h2
  rw [Nat.add_mul, Nat.one_mul, ← e] at h3
  rw [tR]; omega
theorem tR_s {v k : Nat} (hk : k < 32) : tR v (k + 1) = tR v k / 2 + tR v k % 2 * 2147483648 := by
  have e : 2 ^ (32 - k) = 2 * 2 ^ (31 - k) := by rw [← Nat.pow_succ']; congr 1; omega
  have e2 : 32 - (k + 1) = 31 - k := by omega
  have e3 : 2 ^ k * 2 ^ (31 - k) = 2147483648 := by rw [← Nat.pow_add, show k + (31 - k) = 31 by omega]
  have h1 : v % 2 ^ (k + 1) = v % 2 ^ k + 2 ^ k * (v / 2 ^ k % 2) := Nat.mod_pow_succ
  have h2 : v / 2 ^ (k + 1) = v / 2 ^ k / 2 := by rw [Nat.pow_succ, Nat.div_div_eq_div_mul]
  rw [tR, tR, e, e2, h1, h2]
  generalize v / 2 ^ k = q at *
  generalize v % 2 ^ k = r at *
  generalize hm : 2 ^ (31 - k) = m at *
  have h3 : r * (2 * m) = 2 * (r * m) := by rw [Nat.mul_left_comm]
  have h4 : (r + 2 ^ k * (q % 2)) * m = r * m + (q % 2) * 2147483648 := by
    rw [Nat.add_mul, ← e3, Nat.mul_right_comm, Nat.mul_comm (2 ^ k * m)]
  rw [h3, h4]
  generalize r * m = z at *
  omega
theorem tnK_nat {v : Nat} (hv : v < 4294967296) : ∀ k, k ≤ 32 → tnK v k = (tR v k : Nat)
  | 0, _ => by rw [tnK, tR]; simp [Nat.mod_one]
  | k + 1, hk => by
    have ih := tnK_nat hv k (by omega)
    have hlt := tR_lt (v := v) (k := k) (by omega) (by omega)
    have hlt1 := tR_lt (v := v) (k := k + 1) (by omega) hk
    have hs := tR_s (v := v) (k := k) (by omega)
    rw [tnK, ih, hs]
    rw [hs] at hlt1
    generalize tR v k = t at *
    rw [Int.tdiv_eq_ediv_of_nonneg (by omega), Int.tmod_eq_emod_of_nonneg (by omega), IntKind.wrap_u32, IntKind.wrap_u32, IntKind.wrap_u32]
    omega
theorem shK_nat {v : Nat} (hv : v < 4294967296) : ∀ k, shK v k = (v / 2 ^ k : Nat)
  | 0 => by rw [shK]; simp
  | k + 1 => by
    rw [shK, shK_nat hv k, Int.tdiv_eq_ediv_of_nonneg (Int.natCast_nonneg _), IntKind.wrap_u32]
    have h2 : v / 2 ^ (k + 1) = v / 2 ^ k / 2 := by rw [Nat.pow_succ, Nat.div_div_eq_div_mul]
    have h3 : v / 2 ^ k ≤ v := Nat.div_le_self _ _
    rw [h2]
    generalize v / 2 ^ k = q at *
    omega
theorem u32w (n : Int) (h₀ : 0 ≤ n) (h₁ : n < 2 ^ 32) : IntKind.u32.wrap n = n := by rw [IntKind.wrap_u32]; omega
theorem rotN_nat {v k : Nat} (hv : v < 4294967296) (hk : 0 < k) (hk2 : k < 32) : rotN v (32 - k) = (tR v k : Nat) := by
  have e : 2 ^ 32 = 2 ^ k * 2 ^ (32 - k) := by rw [← Nat.pow_add]; congr 1; omega
  have e' : (4294967296 : Nat) = 2 ^ k * 2 ^ (32 - k) := e
  have h1 : v / 2 ^ k < 2 ^ (32 - k) := by rw [Nat.div_lt_iff_lt_mul (Nat.two_pow_pos k), Nat.mul_comm, ← e]; exact hv
  have hm : v * 2 ^ (32 - k) % 4294967296 = v % 2 ^ k * 2 ^ (32 - k) := by rw [e', Nat.mul_mod_mul_right]
  have hl : IntKind.u32.wrap ((v : Int) * 2 ^ min (32 - k) 32) = ((v % 2 ^ k * 2 ^ (32 - k) : Nat) : Int) := by
    rw [IntKind.wrap_u32, show min (32 - k) 32 = 32 - k by omega, ← hm, Int.natCast_emod, Int.natCast_mul, Int.natCast_pow]
    rfl
  have hr : (v : Int).fdiv (2 ^ min (32 - (32 - k)) 32) = ((v / 2 ^ k : Nat) : Int) := by
    rw [show min (32 - (32 - k)) 32 = k by omega, Int.fdiv_eq_ediv_of_nonneg _ (Int.le_of_lt (Int.pow_pos (by omega))), Int.natCast_ediv, Int.natCast_pow]
    rfl
  have hlt := tR_lt (v := v) (k := k) hv (by omega)
  rw [tR] at hlt
  have hx1 : v % 2 ^ k * 2 ^ (32 - k) < 2 ^ 32 := by omega
  rw [rotN, hl, hr, tR]
  have hp : (2 : Int) ^ (32 - k) = ((2 ^ (32 - k) : Nat) : Int) := by rw [Int.natCast_pow]; rfl
  have hp32 : (2 : Int) ^ 32 = ((2 ^ 32 : Nat) : Int) := rfl
  rw [bits_join .u32 32 (by decide) u32w (32 - k) _ _ (Int.natCast_nonneg _) (by rw [hp, ← Int.natCast_emod, Nat.mul_mod_left]; rfl) (by rw [hp32]; exact Int.ofNat_lt.2 hx1) (Int.natCast_nonneg _) (by rw [hp]; exact Int.ofNat_lt.2 h1) (by rw [hp32]; exact Int.ofNat_lt.2 (by omega))]
  rw [← Int.natCast_add, Nat.add_comm]
end Go.Proofs.YtageadccfdbmjaaDoor
