/- Plain: the tag's words are Poly1305's numbers. -/
import Derived.Test.YtakgcmponelbeaaDoorAgD
import Derived.Test.YtakgcmponelbeaaDoorPlB
import Derived.Test.YtakgcmponelbeaaDoorPlC
import Derived.Test.YtakgcmponelbeaaDoorPlD
set_option linter.unusedVariables false
set_option linter.unusedSimpArgs false
namespace Go.Proofs.YtakgcmponelbeaaDoor.Tg
open Sx Pl
set_option maxRecDepth 100000
theorem getD_by {xs : List Int} (h : Pl.By xs) (i : Nat) : 0 ≤ xs.getD i 0 ∧ xs.getD i 0 < 256 := by
  rw [List.getD_eq_getElem?_getD]
  cases hi : xs[i]? with
  | none => simp
  | some x => simpa using h x (List.mem_of_getElem? hi)
theorem num_take_succ {xs : List Int} {k : Nat} (hk : k < xs.length) : num (xs.take (k + 1)) = num (xs.take k) + 256 ^ k * xs.getD k 0 := by
  rw [List.take_add_one, num_append, List.length_take, Nat.min_eq_left (by omega), List.getElem?_eq_getElem hk]
  simp [num, List.getD_eq_getElem?_getD, hk]
theorem By.take {xs : List Int} (h : Pl.By xs) (n : Nat) : Pl.By (xs.take n) := fun x hx => h x (List.mem_of_mem_take hx)
theorem By.drop {xs : List Int} (h : Pl.By xs) (n : Nat) : Pl.By (xs.drop n) := fun x hx => h x (List.mem_of_mem_drop hx)
theorem or_add (a b : Int) (k : Nat) (hk : k ≤ 56) (ha : 0 ≤ a ∧ a < 2 ^ k) (hb : 0 ≤ b ∧ b < 256) : bits .or .u64 a (IntKind.u64.wrap (b * 2 ^ k)) = a + 2 ^ k * b := by
  obtain ⟨p, rfl⟩ := Int.eq_ofNat_of_zero_le ha.1
  obtain ⟨q, rfl⟩ := Int.eq_ofNat_of_zero_le hb.1
  have hp : p < 2 ^ k := by have := ha.2; exact_mod_cast this
  have hq : q < 256 := by omega
  have h2 : 2 ^ k ≤ 2 ^ 56 := Nat.pow_le_pow_right (by omega) hk
  have h3 : 2 ^ k * q ≤ 2 ^ k * 255 := Nat.mul_le_mul_left _ (by omega)
  have hlt : 2 ^ k * q < 2 ^ 64 := by omega
  have e1 : ((q : Int) * 2 ^ k) = ((2 ^ k * q : Nat) : Int) := by push_cast; rw [Int.mul_comm]
  rw [e1, wrap_nat rfl (by simpa [IntKind.bits] using hlt), bits_or rfl (by simp [IntKind.bits]; omega) (by simpa [IntKind.bits] using hlt)]
  rw [Nat.or_comm, ← Nat.two_pow_add_eq_or_of_lt hp q]
  push_cast
  omega
theorem word_num {xs : List Int} (h : Pl.By xs) : ∀ k, k ≤ 8 → k ≤ xs.length → wordN xs k = num (xs.take k)
  | 0, _, _ => by simp [wordN, num]
  | k + 1, h8, hl => by
    have hb := getD_by h k
    have hr := num_range (By.take h k)
    rw [List.length_take, Nat.min_eq_left (by omega), show (256 : Int) ^ k = 2 ^ (8 * k) by rw [Int.pow_mul]; rfl] at hr
    have e : IntKind.u64.wrap (xs.getD k 0) = xs.getD k 0 := by rw [IntKind.wrap_u64]; omega
    rw [wordN, word_num h k (by omega) (by omega), num_take_succ (by omega), Nat.min_eq_left (by omega), e, or_add _ _ _ (by omega) hr hb]
    rw [show (256 : Int) ^ k = 2 ^ (8 * k) by rw [Int.pow_mul]; rfl]

theorem three {h : List Int} (hl : h.length = 3) : h = [h.getD 0 0, h.getD 1 0, h.getD 2 0] := by
  match h, hl with
  | [a, b, c], _ => rfl
theorem plus_len (xs ys : List Int) : ∀ k, (plusC xs ys k).1.length = xs.length
  | 0 => rfl
  | k + 1 => by simp [plusC, plus_len xs ys k]
theorem plus_eq (x0 x1 x2 : Int) (ys : List Int) : (plusC [x0, x1, x2] ys 3).1 = [(x0 + ys.getD 0 0 + 0) % 18446744073709551616, (x1 + ys.getD 1 0 + (x0 + ys.getD 0 0 + 0) / 18446744073709551616) % 18446744073709551616, (x2 + ys.getD 2 0 + (x1 + ys.getD 1 0 + (x0 + ys.getD 0 0 + 0) / 18446744073709551616) / 18446744073709551616) % 18446744073709551616] := rfl
theorem V3_list (a b c : Int) : V3 [a, b, c] = a + 18446744073709551616 * b + 340282366920938463463374607431768211456 * c := rfl
theorem plus_val {xs ys : List Int} (hl : xs.length = 3) (hx : R64 xs) (hy : R64 ys) (hlt : V3 xs + V3 ys < 6277101735386680763835789423207666416102355444464034512896) :
    V3 (plusC xs ys 3).1 = V3 xs + V3 ys := by
  rw [three hl, plus_eq, V3_list, V3_list]
  rw [three hl, V3_list] at hlt
  have a := hx 0; have b := hx 1; have c := hx 2
  have a' := hy 0; have b' := hy 1; have c' := hy 2
  unfold V3 at *
  omega
theorem tO_val {xs ys : List Int} (hx : R64 xs) (hy : R64 ys) :
    (tO xs ys 3).getD 0 0 + 18446744073709551616 * (tO xs ys 3).getD 1 0 + 340282366920938463463374607431768211456 * (tO xs ys 3).getD 2 0 + 6277101735386680763835789423207666416102355444464034512896 * (tO xs ys 3).getD 3 0 + 115792089237316195423570985008687907853269984665640564039457584007913129639936 * (tO xs ys 3).getD 4 0 = V3 xs * V2 ys := by
  unfold V3 V2
  rw [mulV]
  have q := steps (xs.getD 0 0 * ys.getD 0 0) (xs.getD 0 0 * ys.getD 1 0) (xs.getD 1 0 * ys.getD 0 0) (xs.getD 1 0 * ys.getD 1 0) (xs.getD 2 0 * ys.getD 0 0) (xs.getD 2 0 * ys.getD 1 0)
    (prod_le (hx 0) (hy 0)) (prod_le (hx 0) (hy 1)) (prod_le (hx 1) (hy 0)) (prod_le (hx 1) (hy 1)) (prod_le (hx 2) (hy 0)) (prod_le (hx 2) (hy 1))
    _ _ _ _ _ _ _ _ _ _ _ _ _ _ _ rfl rfl rfl rfl rfl rfl rfl rfl rfl rfl rfl rfl rfl rfl rfl
  rw [← q]
  simp only [tO, tI, List.replicate_succ, List.replicate_zero, List.set_cons_zero, List.set_cons_succ, List.getD_cons_zero, List.getD_cons_succ, Nat.zero_add, Nat.add_zero, Nat.reduceAdd, Int.add_zero, Int.zero_add]
theorem times_val {xs ys : List Int} (hx : R64 xs) (hy : R64 ys) (hlt : V3 xs * V2 ys < 115792089237316195423570985008687907853269984665640564039457584007913129639936) :
    ∃ Q : Int, 0 ≤ Q ∧ V3 (timesN xs ys) = V3 xs * V2 ys - pM * Q ∧ 0 ≤ V3 (timesN xs ys) ∧ V3 (timesN xs ys) < 2722258935367507707706996859454145691648 := by
  obtain ⟨o1, o2⟩ := tO_ok hx hy 3
  have w0 := o2 0; have w1 := o2 1; have w2 := o2 2; have w3 := o2 3; have w4 := o2 4
  obtain ⟨Q, q0, q1, q2, q3⟩ := low_four_one _ _ _ _ _ _ w0 w1 w2 w3 w4 (tO_val hx hy) hlt
  have v1 : V3 (lowOf (tO xs ys 3)) = (tO xs ys 3).getD 0 0 + 18446744073709551616 * (tO xs ys 3).getD 1 0 + 340282366920938463463374607431768211456 * ((tO xs ys 3).getD 2 0 % 4) := by
    rw [lowOf, V3_list, and3 w2]
  have v2 : V3 (fourOf (tO xs ys 3)) = ((tO xs ys 3).getD 2 0 - (tO xs ys 3).getD 2 0 % 4) + 18446744073709551616 * (tO xs ys 3).getD 3 0 + 340282366920938463463374607431768211456 * (tO xs ys 3).getD 4 0 := by
    rw [fourOf, V3_list, andNot3 w2]
  have v3 : V3 (oneOf (tO xs ys 3)) = ((tO xs ys 3).getD 2 0 / 4 + 4611686018427387904 * ((tO xs ys 3).getD 3 0 % 4)) + 18446744073709551616 * ((tO xs ys 3).getD 3 0 / 4 + 4611686018427387904 * ((tO xs ys 3).getD 4 0 % 4)) + 340282366920938463463374607431768211456 * ((tO xs ys 3).getD 4 0 / 4) := by
    rw [oneOf, V3_list, shr2 w2, shr2 w3, shr2 w4, orShift w2 w3, orShift w3 w4]
  have l1 := lowOf_ok o2
  have l2 := fourOf_ok o2
  have l3 := oneOf_ok o2
  unfold W64 at *
  have s1 := plus_val (xs := lowOf (tO xs ys 3)) (ys := fourOf (tO xs ys 3)) rfl l1 l2 (by rw [v1, v2]; omega)
  have p1 := (plusC_ok _ _ l1 l2 3).2.2.2
  have s2 := plus_val (xs := (plusC (lowOf (tO xs ys 3)) (fourOf (tO xs ys 3)) 3).1) (ys := oneOf (tO xs ys 3)) (by rw [plus_len]; rfl) p1 l3 (by rw [s1, v1, v2, v3]; omega)
  refine ⟨Q, q0, ?_⟩
  rw [timesN, s2, s1, v1, v2, v3, q1]
  exact ⟨rfl, q3, q2⟩
end Go.Proofs.YtakgcmponelbeaaDoor.Tg
