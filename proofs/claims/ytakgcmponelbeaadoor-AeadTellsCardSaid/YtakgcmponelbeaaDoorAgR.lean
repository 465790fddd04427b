/- Plain: the tag is the number's last 16 digits; the statements' plain halves. -/
import Derived.Test.YtakgcmponelbeaaDoorAgQ
set_option linter.unusedVariables false
set_option linter.unusedSimpArgs false
namespace Go.Proofs.YtakgcmponelbeaaDoor.Tg
open Sx Pl
set_option maxRecDepth 100000
theorem byt_app : ∀ (n k : Nat) (v : Int), byt (n + k) v = byt n v ++ byt k (v / 256 ^ n)
  | 0, k, v => by simp [byt]
  | n + 1, k, v => by
    rw [show n + 1 + k = (n + k) + 1 by omega, byt, byt, byt_app n k, Int.pow_succ, Int.mul_comm (256 ^ n) 256, Int.ediv_ediv_of_nonneg (by omega), List.cons_append]
theorem byt8 (v : Int) : byt 8 v = [v % 256, v / 256 % 256, v / 65536 % 256, v / 16777216 % 256, v / 4294967296 % 256, v / 1099511627776 % 256, v / 281474976710656 % 256, v / 72057594037927936 % 256] := by
  simp only [byt, List.cons.injEq, and_true, true_and]
  refine ⟨?_, ?_, ?_, ?_, ?_, ?_⟩ <;> omega
theorem out_val {h : List Int} (hh : R64 h) : outN h 16 = byt 16 (h.getD 0 0 + 18446744073709551616 * h.getD 1 0) := by
  have b0 := hh 0; have b1 := hh 1
  rw [show (16 : Nat) = 8 + 8 from rfl, byt_app 8 8, show (256 : Int) ^ 8 = 18446744073709551616 from rfl,
    show (h.getD 0 0 + 18446744073709551616 * h.getD 1 0) / 18446744073709551616 = h.getD 1 0 by omega,
    ← byt_mod 8 (h.getD 0 0 + 18446744073709551616 * h.getD 1 0), show (256 : Int) ^ 8 = 18446744073709551616 from rfl,
    show (h.getD 0 0 + 18446744073709551616 * h.getD 1 0) % 18446744073709551616 = h.getD 0 0 by omega, byt8, byt8]
  have m64 : IntKind.u64.bits = 64 := rfl
  simp only [outN, Nat.reduceAdd, m64, Nat.reduceDiv, Nat.reduceMod, Nat.reduceMul, show min 8 64 = 8 from rfl, show min 16 64 = 16 from rfl, show min 24 64 = 24 from rfl, show min 32 64 = 32 from rfl, show min 40 64 = 40 from rfl, show min 48 64 = 48 from rfl, show min 56 64 = 56 from rfl, Int.fdiv_one, IntKind.wrap_u8, Nat.mul_zero, Nat.zero_div, Nat.zero_mod, Nat.min_eq_left (Nat.zero_le _), List.replicate_succ, List.replicate_zero, List.set_cons_zero, List.set_cons_succ, Int.fdiv_eq_ediv_of_nonneg _ (show (0 : Int) ≤ 256 by omega), Int.fdiv_eq_ediv_of_nonneg _ (show (0 : Int) ≤ 65536 by omega), Int.fdiv_eq_ediv_of_nonneg _ (show (0 : Int) ≤ 16777216 by omega), Int.fdiv_eq_ediv_of_nonneg _ (show (0 : Int) ≤ 4294967296 by omega), Int.fdiv_eq_ediv_of_nonneg _ (show (0 : Int) ≤ 1099511627776 by omega), Int.fdiv_eq_ediv_of_nonneg _ (show (0 : Int) ≤ 281474976710656 by omega), Int.fdiv_eq_ediv_of_nonneg _ (show (0 : Int) ≤ 72057594037927936 by omega), Int.reducePow, Int.ediv_one, List.cons_append, List.nil_append]
def rK (key : List Int) : Int := V2 (rN key)
theorem word_lt {xs : List Int} (h : Pl.By xs) (hl : 8 ≤ xs.length) : 0 ≤ wordN xs 8 ∧ wordN xs 8 < 18446744073709551616 := wordN_range xs 8
theorem mask_lt {x y : Int} (hx : W64 x) (hy : W64 y) : 0 ≤ bits .and .u64 x y ∧ bits .and .u64 x y ≤ y := by
  obtain ⟨a, rfl⟩ := Int.eq_ofNat_of_zero_le hx.1
  obtain ⟨b, rfl⟩ := Int.eq_ofNat_of_zero_le hy.1
  have ha : a < 2 ^ IntKind.u64.bits := by have := hx.2; simp [IntKind.bits]; omega
  have hb : b < 2 ^ IntKind.u64.bits := by have := hy.2; simp [IntKind.bits]; omega
  rw [bits_and rfl ha hb]
  have := Nat.and_le_right (n := a) (m := b)
  omega
theorem rK_range (key : List Int) : 0 ≤ rK key ∧ rK key < 21267647932558653966460912964485513216 := by
  have h0 := mask_lt (wordN_range ((key.drop 0).take 32) 8) (show W64 1152921487695413247 from ⟨by omega, by omega⟩)
  have h1 := mask_lt (wordN_range ((key.drop 8).take 24) 8) (show W64 1152921487695413244 from ⟨by omega, by omega⟩)
  unfold rK V2 rN
  simp only [List.getD_cons_zero, List.getD_cons_succ]
  omega
theorem sum_val {key m : List Int} (hk : Pl.By key) (hl : key.length = 32) (hm : Pl.By m) : sumN key m = byt 16 (poly (rK key) m ((m.length + 15) / 16) % pM + num (key.drop 16)) := by
  obtain ⟨h1, h2, h3, q, h4⟩ := hN_val (rN_ok key) (rK_range key) hm ((m.length + 15) / 16)
  obtain ⟨p1, t, p2⟩ := pick_val h1 (hN_ok (rN_ok key) _) h2 h3 h4
  have b0 := p1 0; have b1 := p1 1; have b2 := p1 2
  have s0 := wordN_range ((key.drop 16).take 16) 8
  have s1 := wordN_range ((key.drop 24).take 8) 8
  have k16 := By.drop hk 16
  have w0 : wordN ((key.drop 16).take 16) 8 = num ((key.drop 16).take 8) := by
    rw [word_num (By.take k16 _) 8 (by omega) (by simp [hl]), List.take_take]
    simp
  have w1 : wordN ((key.drop 24).take 8) 8 = num ((key.drop 16).drop 8) := by
    rw [word_num (By.take (By.drop hk _) _) 8 (by omega) (by simp [hl]), List.take_take, List.drop_drop, List.take_of_length_le (by simp [hl])]
  have wS : num (key.drop 16) = wordN ((key.drop 16).take 16) 8 + 18446744073709551616 * wordN ((key.drop 24).take 8) 8 := by
    rw [w0, w1]
    conv => lhs; rw [← List.take_append_drop 8 (key.drop 16)]
    rw [num_append, List.length_take, List.length_drop, hl]
    rfl
  have hl3 : R64 (lastH key (hN (rN key) m ((m.length + 15) / 16))) := (plusC_ok _ _ (R64.three b0 b1 z0) (R64.three s0 s1 z0) 3).2.2.2
  have c0 := hl3 0; have c1 := hl3 1; have c2 := hl3 2
  have hv : V3 (lastH key (hN (rN key) m ((m.length + 15) / 16))) = (pickH (hN (rN key) m ((m.length + 15) / 16))).getD 0 0 + 18446744073709551616 * (pickH (hN (rN key) m ((m.length + 15) / 16))).getD 1 0 + num (key.drop 16) := by
    rw [lastH, plus_val rfl (R64.three b0 b1 z0) (R64.three s0 s1 z0) (by rw [V3_list, V3_list]; omega), V3_list, V3_list, wS]
    omega
  rw [sumN, out_val hl3, ← byt_mod 16 (poly (rK key) m ((m.length + 15) / 16) % pM + num (key.drop 16)), ← byt_mod 16]
  congr 1
  rw [show (256 : Int) ^ 16 = 340282366920938463463374607431768211456 from rfl]
  have hp : V3 (pickH (hN (rN key) m ((m.length + 15) / 16))) = (pickH (hN (rN key) m ((m.length + 15) / 16))).getD 0 0 + 18446744073709551616 * (pickH (hN (rN key) m ((m.length + 15) / 16))).getD 1 0 + 340282366920938463463374607431768211456 * (pickH (hN (rN key) m ((m.length + 15) / 16))).getD 2 0 := rfl
  have hq : V3 (lastH key (hN (rN key) m ((m.length + 15) / 16))) = (lastH key (hN (rN key) m ((m.length + 15) / 16))).getD 0 0 + 18446744073709551616 * (lastH key (hN (rN key) m ((m.length + 15) / 16))).getD 1 0 + 340282366920938463463374607431768211456 * (lastH key (hN (rN key) m ((m.length + 15) / 16))).getD 2 0 := rfl
  unfold rK
  generalize poly (V2 (rN key)) m ((m.length + 15) / 16) % pM = X at *
  omega
end Go.Proofs.YtakgcmponelbeaaDoor.Tg
