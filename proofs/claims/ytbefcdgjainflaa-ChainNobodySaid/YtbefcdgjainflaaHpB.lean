/- Plain: bits of numbers that are natural. -/
import Derived.Test.YtbefcdgjainflaaSxW
set_option linter.unusedVariables false
namespace Sx
open Go
theorem wrap_nat {k : IntKind} {n : Nat} (hs : k.signed = false) (h1 : n < 2 ^ k.bits) : k.wrap (n : Int) = n := by
  cases k <;> simp [IntKind.signed] at hs <;> simp [IntKind.wrap, IntKind.signed, IntKind.bits] at * <;> omega
section
variable {k : IntKind} {a b : Nat}
theorem bv_nat (ha : a < 2 ^ k.bits) : (BitVec.ofInt k.bits (a : Int)).toNat = a := by
  rw [BitVec.ofInt_natCast, BitVec.toNat_ofNat]; exact Nat.mod_eq_of_lt ha
theorem bits_and (hs : k.signed = false) (ha : a < 2 ^ k.bits) (hb : b < 2 ^ k.bits) : bits .and k a b = ((a &&& b : Nat) : Int) := by
  show k.wrap ((BitVec.ofInt k.bits (a : Int) &&& BitVec.ofInt k.bits (b : Int)).toNat : Int) = _
  rw [BitVec.toNat_and, bv_nat ha, bv_nat hb]
  exact wrap_nat hs (Nat.and_lt_two_pow a hb)
theorem bits_or (hs : k.signed = false) (ha : a < 2 ^ k.bits) (hb : b < 2 ^ k.bits) : bits .or k a b = ((a ||| b : Nat) : Int) := by
  show k.wrap ((BitVec.ofInt k.bits (a : Int) ||| BitVec.ofInt k.bits (b : Int)).toNat : Int) = _
  rw [BitVec.toNat_or, bv_nat ha, bv_nat hb]
  exact wrap_nat hs (Nat.or_lt_two_pow ha hb)
theorem bits_xor (hs : k.signed = false) (ha : a < 2 ^ k.bits) (hb : b < 2 ^ k.bits) : bits .xor k a b = ((a ^^^ b : Nat) : Int) := by
  show k.wrap ((BitVec.ofInt k.bits (a : Int) ^^^ BitVec.ofInt k.bits (b : Int)).toNat : Int) = _
  rw [BitVec.toNat_xor, bv_nat ha, bv_nat hb]
  exact wrap_nat hs (Nat.xor_lt_two_pow ha hb)
end
/-- Bytes. -/
def Bt (xs : List Int) : Prop := ∀ i, 0 ≤ xs.getD i 0 ∧ xs.getD i 0 < 256
theorem Bt.of_mem {xs : List Int} (h : ∀ x ∈ xs, 0 ≤ x ∧ x < 256) : Bt xs := by
  intro i
  rw [List.getD_eq_getElem?_getD]
  cases hi : xs[i]? with
  | none => simp
  | some x => simpa using h x (List.mem_of_getElem? hi)
theorem byte_nat {x : Int} (h : 0 ≤ x ∧ x < 256) : ∃ n : Nat, x = n ∧ n < 256 := ⟨x.toNat, by omega, by omega⟩
theorem xor_byte {x y : Int} (hx : 0 ≤ x ∧ x < 256) (hy : 0 ≤ y ∧ y < 256) : (bits .xor .u8 x y = 0 ↔ x = y) ∧ 0 ≤ bits .xor .u8 x y ∧ bits .xor .u8 x y < 256 := by
  obtain ⟨a, rfl, ha⟩ := byte_nat hx
  obtain ⟨b, rfl, hb⟩ := byte_nat hy
  rw [bits_xor rfl (by simpa [IntKind.bits] using ha) (by simpa [IntKind.bits] using hb)]
  have hlt : a ^^^ b < 2 ^ 8 := Nat.xor_lt_two_pow (by omega) (by omega)
  refine ⟨⟨fun h => ?_, fun h => ?_⟩, by omega, by omega⟩
  · have h0 : a ^^^ b = 0 := by omega
    have h1 := congrArg (· ^^^ b) h0
    have h2 : a = b := by simpa [Nat.xor_assoc] using h1
    omega
  · have : a = b := by omega
    subst this; simp
theorem or_byte {x y : Int} (hx : 0 ≤ x ∧ x < 256) (hy : 0 ≤ y ∧ y < 256) : (bits .or .u8 x y = 0 ↔ x = 0 ∧ y = 0) ∧ 0 ≤ bits .or .u8 x y ∧ bits .or .u8 x y < 256 := by
  obtain ⟨a, rfl, ha⟩ := byte_nat hx
  obtain ⟨b, rfl, hb⟩ := byte_nat hy
  rw [bits_or rfl (by simpa [IntKind.bits] using ha) (by simpa [IntKind.bits] using hb)]
  have hlt : a ||| b < 2 ^ 8 := Nat.or_lt_two_pow (by omega) (by omega)
  refine ⟨⟨fun h => ?_, fun h => ?_⟩, by omega, by omega⟩
  · have h0 : a ||| b = 0 := by omega
    have := Nat.or_eq_zero_iff.1 h0
    omega
  · have h1 : a = 0 := by omega
    have h2 : b = 0 := by omega
    subst h1; subst h2; rfl
theorem strOf_inj {xs ys : List Int} (hx : ∀ x ∈ xs, 0 ≤ x ∧ x < 256) (hy : ∀ x ∈ ys, 0 ≤ x ∧ x < 256) (h : strOf xs = strOf ys) : xs = ys := by
  simp only [strOf, ByteArray.mk.injEq, Array.mk.injEq] at h
  induction xs generalizing ys with
  | nil => cases ys with
    | nil => rfl
    | cons y ys => simp at h
  | cons x xs ih =>
    cases ys with
    | nil => simp at h
    | cons y ys =>
      simp only [List.map_cons, List.cons.injEq] at h
      have h1 := hx x (by simp)
      have h2 := hy y (by simp)
      have h3 := congrArg UInt8.toNat h.1
      simp only [UInt8.toNat_ofNat'] at h3
      have : x = y := by omega
      rw [this, ih (fun z hz => hx z (by simp [hz])) (fun z hz => hy z (by simp [hz])) h.2]
end Sx
