/- Plain: the statements' plain halves. -/
import Derived.Test.YtakgcmponelbeaaDoorAgR
import Derived.Test.YtakgcmponelbeaaDoorAgC
set_option linter.unusedVariables false
set_option linter.unusedSimpArgs false
namespace Go.Proofs.YtakgcmponelbeaaDoor.Tg
open Sx Pl
set_option maxRecDepth 100000
def numN : List Nat → Nat
  | [] => 0
  | x :: xs => x + 256 * numN xs
theorem numN_num : ∀ xs : List Nat, num (xs.map Int.ofNat) = (numN xs : Int)
  | [] => rfl
  | x :: xs => by
    simp only [List.map_cons, num, numN, numN_num xs]
    show (x : Int) + 256 * (numN xs : Int) = _
    omega
theorem and_digit {a c : Nat} (ha : a < 256) (hc : c < 256) (b d : Nat) : (a + 256 * b) &&& (c + 256 * d) = (a &&& c) + 256 * (b &&& d) := by
  have h1 : a + 256 * b = 2 ^ 8 * b + a := by omega
  have h2 : c + 256 * d = 2 ^ 8 * d + c := by omega
  have hac : a &&& c < 2 ^ 8 := Nat.and_lt_two_pow a hc
  have h3 : (a &&& c) + 256 * (b &&& d) = 2 ^ 8 * (b &&& d) + (a &&& c) := by omega
  rw [h1, h2, h3]
  apply Nat.eq_of_testBit_eq
  intro i
  rw [Nat.testBit_and, Nat.testBit_two_pow_mul_add _ ha, Nat.testBit_two_pow_mul_add _ hc, Nat.testBit_two_pow_mul_add _ hac]
  by_cases hi : i < 8 <;> simp [hi, Nat.testBit_and]
theorem nat_and : ∀ (xs ms : List Nat), (∀ x ∈ xs, x < 256) → (∀ x ∈ ms, x < 256) → numN xs &&& numN ms = numN (List.zipWith (· &&& ·) xs ms)
  | [], ms, _, _ => by simp [numN]
  | x :: xs, [], _, _ => by simp [numN]
  | x :: xs, m :: ms, hx, hm => by
    rw [numN, numN, and_digit (hx x (by simp)) (hm m (by simp)), nat_and xs ms (fun y h => hx y (by simp [h])) (fun y h => hm y (by simp [h]))]
    rfl
theorem numN_lt : ∀ (xs : List Nat), (∀ x ∈ xs, x < 256) → numN xs < 256 ^ xs.length
  | [], _ => by simp [numN]
  | x :: xs, h => by
    have h1 := h x (by simp)
    have h2 := numN_lt xs (fun y hy => h y (by simp [hy]))
    rw [numN, List.length_cons, Nat.pow_succ]
    omega
theorem numN_append (xs ys : List Nat) : numN (xs ++ ys) = numN xs + 256 ^ xs.length * numN ys := by
  induction xs with
  | nil => simp [numN]
  | cons x xs ih =>
    simp only [List.cons_append, numN, ih, List.length_cons, Nat.pow_succ]
    rw [Nat.mul_add, ← Nat.mul_assoc, Nat.mul_comm 256 (256 ^ xs.length), Nat.add_assoc]
theorem by_nat {xs : List Int} (h : Pl.By xs) : xs = (xs.map Int.toNat).map Int.ofNat ∧ ∀ x ∈ xs.map Int.toNat, x < 256 := by
  constructor
  · rw [List.map_map]
    conv => lhs; rw [← List.map_id xs]
    apply List.map_congr_left
    intro x hx
    have := h x hx
    simp
    omega
  · intro x hx
    obtain ⟨y, hy, rfl⟩ := List.mem_map.1 hx
    have := h y hy
    omega
def msk : List Nat := [255, 255, 255, 15, 252, 255, 255, 15, 252, 255, 255, 15, 252, 255, 255, 15]
theorem rK_num {key : List Int} (hk : Pl.By key) (hl : key.length = 32) : rK key = (numN (List.zipWith (· &&& ·) ((key.map Int.toNat).take 16) msk) : Int) := by
  obtain ⟨e, hn⟩ := by_nat hk
  have hn1 : ∀ x ∈ (key.map Int.toNat).take 8, x < 256 := fun x hx => hn x (List.mem_of_mem_take hx)
  have hn2 : ∀ x ∈ ((key.map Int.toNat).drop 8).take 8, x < 256 := fun x hx => hn x (List.mem_of_mem_drop (List.mem_of_mem_take hx))
  have w0 : wordN ((key.drop 0).take 32) 8 = (numN ((key.map Int.toNat).take 8) : Int) := by
    rw [word_num (By.take (By.drop hk _) _) 8 (by omega) (by simp [hl]), List.take_take, List.drop_zero, ← numN_num]
    conv => lhs; rw [e]
    simp
  have w1 : wordN ((key.drop 8).take 24) 8 = (numN (((key.map Int.toNat).drop 8).take 8) : Int) := by
    rw [word_num (By.take (By.drop hk _) _) 8 (by omega) (by simp [hl]), List.take_take, ← numN_num]
    conv => lhs; rw [e]
    simp
  have l0 := numN_lt _ hn1
  have l1 := numN_lt _ hn2
  rw [List.length_take, List.length_map, hl] at l0
  rw [List.length_take, List.length_drop, List.length_map, hl] at l1
  have p0 : (256 : Nat) ^ min 8 32 = 2 ^ IntKind.u64.bits := by decide
  have p1 : (256 : Nat) ^ min 8 (32 - 8) = 2 ^ IntKind.u64.bits := by decide
  rw [p0] at l0
  rw [p1] at l1
  unfold rK V2 rN
  simp only [List.getD_cons_zero, List.getD_cons_succ]
  rw [w0, w1, show (1152921487695413247 : Int) = ((numN (msk.take 8) : Nat) : Int) from by decide, show (1152921487695413244 : Int) = ((numN (msk.drop 8) : Nat) : Int) from by decide,
    bits_and rfl l0 (by decide), bits_and rfl l1 (by decide), nat_and _ _ hn1 (by decide), nat_and _ _ hn2 (by decide)]
  have e2 : (key.map Int.toNat).take 16 = (key.map Int.toNat).take 8 ++ ((key.map Int.toNat).drop 8).take 8 := by
    rw [← List.take_add]
  have e3 : msk = msk.take 8 ++ msk.drop 8 := (List.take_append_drop 8 msk).symm
  have e4 : List.zipWith (· &&& ·) ((key.map Int.toNat).take 16) msk = List.zipWith (· &&& ·) ((key.map Int.toNat).take 8) (msk.take 8) ++ List.zipWith (· &&& ·) (((key.map Int.toNat).drop 8).take 8) (msk.drop 8) := by
    rw [e2]
    conv => lhs; rw [e3]
    rw [List.zipWith_append (by simp [hl, msk])]
  rw [e4, numN_append, List.length_zipWith, List.length_take, List.length_map, hl]
  have : (256 : Nat) ^ min (min 8 32) (msk.take 8).length = 18446744073709551616 := by decide
  rw [this]
  omega
/-! ### The bits that are left out -/
theorem getD_set_self {xs : List Int} {k : Nat} (h : k < xs.length) (v : Int) : (xs.set k v).getD k 0 = v := by
  simp [List.getD_eq_getElem?_getD, h]
theorem getD_set_ne {xs : List Int} {k i : Nat} (h : k ≠ i) (v : Int) : (xs.set k v).getD i 0 = xs.getD i 0 := by
  simp [List.getD_eq_getElem?_getD, List.getElem?_set, h]
theorem outN_ok (h : List Int) : ∀ k, R8 (outN h k) ∧ (outN h k).length = 16
  | 0 => ⟨fun i => by simp only [outN, List.getD_eq_getElem?_getD, List.getElem?_replicate]; split <;> simp, by simp [outN]⟩
  | k + 1 => by
    obtain ⟨h1, h2⟩ := outN_ok h k
    refine ⟨fun i => ?_, by simp [outN, h2]⟩
    rw [outN]
    by_cases hi : i = k
    · subst hi
      by_cases hl : i < (outN h i).length
      · rw [getD_set_self hl, IntKind.wrap_u8]; omega
      · rw [List.set_eq_of_length_le (by omega)]; exact h1 i
    · rw [getD_set_ne (fun e => hi e.symm)]; exact h1 i

/-! ### Differences -/
end Go.Proofs.YtakgcmponelbeaaDoor.Tg
