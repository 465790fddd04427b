/- Plain: what the tag's Sum reckons. -/
import Derived.Test.YtakgcmponelbeaaDoorAgP
set_option linter.unusedVariables false
set_option linter.unusedSimpArgs false
namespace Go.Proofs.YtakgcmponelbeaaDoor.Tg
open Sx Pl
set_option maxRecDepth 100000
theorem num_zeros : ∀ n, num (List.replicate n 0) = 0
  | 0 => rfl
  | n + 1 => by simp [List.replicate_succ, num, num_zeros n]
theorem By.app {xs ys : List Int} (h : Pl.By xs) (h' : Pl.By ys) : Pl.By (xs ++ ys) := fun x hx => by
  rcases List.mem_append.1 hx with h1 | h1
  · exact h x h1
  · exact h' x h1
theorem By.zeros (n : Nat) : Pl.By (List.replicate n 0) := fun x hx => by rw [List.eq_of_mem_replicate hx]; omega
/-- What a block counts. -/
def bv (m : List Int) : Int := num (m.take 16) + 256 ^ min m.length 16
theorem blkN_eq (m : List Int) : blkN m = m.take 16 ++ 1 :: List.replicate (23 - min m.length 16) 0 := by
  have hk : min m.length 16 ≤ 16 := Nat.min_le_right _ _
  have e : List.take (min m.length 16) m = m.take 16 := by
    by_cases h : m.length ≤ 16
    · rw [Nat.min_eq_left h, List.take_length, List.take_of_length_le h]
    · rw [Nat.min_eq_right (by omega)]
  have hl : (m.take 16).length = min m.length 16 := by rw [List.length_take, Nat.min_comm]
  rw [blkN, cpN, e, hl, List.take_zero, List.nil_append, List.drop_replicate, List.set_append_right _ _ (by omega), hl, Nat.sub_self]
  have : 24 - min m.length 16 = (23 - min m.length 16) + 1 := by omega
  rw [this, List.replicate_succ, List.set_cons_zero]
theorem blkN_by {m : List Int} (hm : Pl.By m) : Pl.By (blkN m) := by
  rw [blkN_eq]
  refine By.app (By.take hm 16) (fun x hx => ?_)
  rcases List.mem_cons.1 hx with rfl | hx
  · omega
  · exact By.zeros _ x hx
theorem blkN_num (m : List Int) : num (blkN m) = bv m := by
  rw [blkN_eq, num_append, num, num_zeros, bv, List.length_take, Nat.min_comm]
  simp
theorem bv_range {m : List Int} (hm : Pl.By m) : 0 ≤ bv m ∧ bv m < 680564733841876926926749214863536422912 := by
  have h := num_range (By.take hm 16)
  rw [List.length_take, Nat.min_comm] at h
  have h2 : (256 : Int) ^ min m.length 16 ≤ 256 ^ 16 := by
    have : (256 : Nat) ^ min m.length 16 ≤ 256 ^ 16 := Nat.pow_le_pow_right (by omega) (Nat.min_le_right _ _)
    exact_mod_cast this
  have h3 : (256 : Int) ^ 16 = 340282366920938463463374607431768211456 := rfl
  unfold bv
  omega
theorem words3 {l : List Int} (hl : l.length = 24) (hb : Pl.By l) : V3 [wordN ((l.drop 0).take 24) 8, wordN ((l.drop 8).take 16) 8, wordN ((l.drop 16).take 8) 8] = num l := by
  rw [word_num (By.take (By.drop hb _) _) 8 (by omega) (by simp [hl]), word_num (By.take (By.drop hb _) _) 8 (by omega) (by simp [hl]), word_num (By.take (By.drop hb _) _) 8 (by omega) (by simp [hl])]
  rw [List.take_take, List.take_take, List.take_take, V3_list, List.drop_zero]
  have e : l = l.take 8 ++ ((l.drop 8).take 8 ++ (l.drop 16).take 8) := by
    rw [List.take_of_length_le (l := l.drop 16) (by simp [hl]), show l.drop 16 = (l.drop 8).drop 8 by rw [List.drop_drop], List.take_append_drop, List.take_append_drop]
  have e2 := congrArg num e
  rw [num_append, num_append, List.length_take, List.length_take, List.length_drop, hl] at e2
  simp only [Nat.reduceSub, Nat.reduceLeDiff, Nat.min_eq_left, show min 8 24 = 8 from rfl, show min 8 16 = 8 from rfl] at e2 ⊢
  rw [e2, show (256 : Int) ^ 8 = 18446744073709551616 from rfl]
  omega
def poly (R : Int) (m : List Int) : Nat → Int
  | 0 => 0
  | k + 1 => (poly R m k + bv (m.drop (16 * k))) * R
theorem hN_val {r m : List Int} (hr : R64 r) (hR : 0 ≤ V2 r ∧ V2 r < 21267647932558653966460912964485513216) (hm : Pl.By m) : ∀ k, (hN r m k).length = 3 ∧ 0 ≤ V3 (hN r m k) ∧ V3 (hN r m k) < 2722258935367507707706996859454145691648 ∧ ∃ q, V3 (hN r m k) = poly (V2 r) m k - pM * q
  | 0 => ⟨by simp [hN], by simp [hN, V3, List.replicate_succ], by simp [hN, V3, List.replicate_succ], 0, by simp [hN, V3, List.replicate_succ, poly]⟩
  | k + 1 => by
    obtain ⟨h1, h2, h3, q, h4⟩ := hN_val hr hR hm k
    have hb := By.drop hm (16 * k)
    have hbr := bv_range hb
    have hw := words3 (blkN_length (m.drop (16 * k))) (blkN_by hb)
    rw [blkN_num] at hw
    have hw64 : R64 [wordN (((blkN (m.drop (16 * k))).drop 0).take 24) 8, wordN (((blkN (m.drop (16 * k))).drop 8).take 16) 8, wordN (((blkN (m.drop (16 * k))).drop 16).take 8) 8] := R64.three (wordN_range _ _) (wordN_range _ _) (wordN_range _ _)
    have hp := plus_val h1 (hN_ok (m := m) hr k) hw64 (by rw [hw]; omega)
    rw [hw] at hp
    have hp64 := (plusC_ok _ _ (hN_ok (m := m) hr k) hw64 3).2.2.2
    have hprod : (V3 (hN r m k) + bv (m.drop (16 * k))) * V2 r ≤ 5444517870735015415413993718908291383295 * 21267647932558653966460912964485513215 := Int.mul_le_mul (by omega) (by omega) hR.1 (by omega)
    obtain ⟨Q, t1, t2, t3, t4⟩ := times_val hp64 hr (by rw [hp]; omega)
    rw [hN]
    refine ⟨by rw [timesN, plus_len, plus_len]; rfl, t3, t4, q * V2 r + Q, ?_⟩
    rw [t2, hp, h4, poly]
    unfold pM
    grind
theorem getD3 {h : List Int} (hh : R64 h) : V3 h = h.getD 0 0 + 18446744073709551616 * h.getD 1 0 + 340282366920938463463374607431768211456 * h.getD 2 0 := rfl
theorem pick_val {h : List Int} {X q : Int} (hl : h.length = 3) (hh : R64 h) (h0 : 0 ≤ V3 h) (hlt : V3 h < 2722258935367507707706996859454145691648) (hq : V3 h = X - pM * q) :
    R64 (pickH h) ∧ ∃ t, V3 (pickH h) = X % pM + 340282366920938463463374607431768211456 * t := by
  have b0 := hh 0; have b1 := hh 1; have b2 := hh 2
  have f1 : V3 (foldH h) = V3 h - pM * (h.getD 2 0 / 4) := by
    have e2 : IntKind.u64.wrap (5 * (h.getD 2 0).fdiv (2 ^ min 2 IntKind.u64.bits)) = 5 * (h.getD 2 0 / 4) := by
      rw [shr2 b2, IntKind.wrap_u64]; unfold V3 at hlt; omega
    have e1 : bits .and .u64 (h.getD 2 0) 3 = h.getD 2 0 % 4 := and3 b2
    rw [foldH, plus_val (by rfl) (R64.three b0 b1 (bits64_range _ _ _)) (R64.three (wrap_range _) z0 z0) (by rw [e1, e2, V3_list, V3_list]; unfold V3 at hlt; omega), e1, e2, V3_list, V3_list]
    unfold V3 pM
    omega
  have fl : (foldH h).length = 3 := by rw [foldH, plus_len]; rfl
  have f2 : V3 (overH h) = V3 (foldH h) + 5 := by
    rw [overH, plus_val fl (foldH_ok hh) (R64.three z5 z0 z0) (by rw [f1, V3_list]; unfold V3 pM at *; omega), V3_list]
    omega
  refine ⟨pickH_ok hh, ?_⟩
  have c0 := overH_ok hh 0; have c1 := overH_ok hh 1; have c2 := overH_ok hh 2
  unfold pickH
  split
  · next h4 =>
    refine ⟨4, ?_⟩
    rw [f2, f1]
    have : V3 (overH h) = (overH h).getD 0 0 + 18446744073709551616 * (overH h).getD 1 0 + 340282366920938463463374607431768211456 * (overH h).getD 2 0 := rfl
    have hv : V3 h = h.getD 0 0 + 18446744073709551616 * h.getD 1 0 + 340282366920938463463374607431768211456 * h.getD 2 0 := rfl
    unfold pM at *
    omega
  · next h4 =>
    refine ⟨0, ?_⟩
    rw [f1]
    have : V3 (overH h) = (overH h).getD 0 0 + 18446744073709551616 * (overH h).getD 1 0 + 340282366920938463463374607431768211456 * (overH h).getD 2 0 := rfl
    have hv : V3 h = h.getD 0 0 + 18446744073709551616 * h.getD 1 0 + 340282366920938463463374607431768211456 * h.getD 2 0 := rfl
    unfold pM at *
    omega
end Go.Proofs.YtakgcmponelbeaaDoor.Tg
