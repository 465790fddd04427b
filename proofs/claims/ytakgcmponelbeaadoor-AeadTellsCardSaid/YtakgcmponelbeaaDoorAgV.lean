/- Plain: what the reference's Sum makes of key and bytes, as numbers. -/
import Derived.Test.YtakgcmponelbeaaDoorAgU
set_option linter.unusedVariables false
set_option linter.unusedSimpArgs false
namespace Go.Proofs.YtakgcmponelbeaaDoor.Tg
open Sx Pl
set_option maxRecDepth 100000
def yD (key : List Int) (k : Nat) : Int := if k % 4 = 3 then key.getD k 0 % 16 else key.getD k 0
def rD (key : List Int) (k : Nat) : Int := if k = 4 ∨ k = 8 ∨ k = 12 then yD key k - yD key k % 4 else yD key k
def rL (key : List Int) : Nat → List Int
  | 0 => []
  | k + 1 => rL key k ++ [rD key k]
theorem rL_len (key : List Int) : ∀ k, (rL key k).length = k
  | 0 => rfl
  | k + 1 => by simp [rL, rL_len key k]
theorem yD_ok {key : List Int} (hk : Pl.By key) (k : Nat) : 0 ≤ yD key k ∧ yD key k < 256 := by
  have h := getD_by hk k
  unfold yD
  split <;> omega
theorem rD_ok {key : List Int} (hk : Pl.By key) (k : Nat) : 0 ≤ rD key k ∧ rD key k < 256 := by
  have h := yD_ok hk k
  unfold rD
  split <;> omega
theorem rL_get (key : List Int) : ∀ n i, i < n → (rL key n).getD i 0 = rD key i
  | 0, i, h => by omega
  | n + 1, i, h => by
    have hl := rL_len key n
    rw [rL]
    by_cases hi : i = n
    · subst hi
      simp [List.getD_eq_getElem?_getD, List.getElem?_append, hl]
    · rw [← rL_get key n i (by omega)]
      simp [List.getD_eq_getElem?_getD, List.getElem?_append, hl, show i < n by omega]
theorem rL_bd {key : List Int} (hk : Pl.By key) (n : Nat) : Bd 256 (rL key n) := by
  intro i
  by_cases h : i < n
  · rw [rL_get key n i h]; exact rD_ok hk i
  · have hl := rL_len key n
    simp [List.getD_eq_getElem?_getD, List.getElem?_eq_none (show (rL key n).length ≤ i by omega)]
theorem and252 : ∀ a : Fin 256, a.val &&& 252 = a.val - a.val % 4 := by decide
theorem and15 : ∀ a : Fin 256, a.val &&& 15 = a.val % 16 := by decide
theorem and255 : ∀ a : Fin 256, a.val &&& 255 = a.val := by decide
theorem ext_getD' {l l' : List Int} (h : l.length = l'.length) (he : ∀ i, i < l.length → l.getD i 0 = l'.getD i 0) : l = l' := by
  apply List.ext_getElem h
  intro i h1 h2
  have := he i h1
  simpa [List.getD_eq_getElem?_getD, h1, h2] using this
theorem rD_and {key : List Int} (hk : Pl.By key) (i : Nat) (hi : i < 16) : rD key i = (((key.getD i 0).toNat &&& msk.getD i 0 : Nat) : Int) := by
  obtain ⟨a, ha, hab⟩ := byte_nat (getD_by hk i)
  have h1 := and252 ⟨a, hab⟩
  have h2 := and15 ⟨a, hab⟩
  have h3 := and255 ⟨a, hab⟩
  simp only at h1 h2 h3
  unfold rD yD
  rw [ha, Int.toNat_natCast]
  have : i = 0 ∨ i = 1 ∨ i = 2 ∨ i = 3 ∨ i = 4 ∨ i = 5 ∨ i = 6 ∨ i = 7 ∨ i = 8 ∨ i = 9 ∨ i = 10 ∨ i = 11 ∨ i = 12 ∨ i = 13 ∨ i = 14 ∨ i = 15 := by omega
  rcases this with rfl | rfl | rfl | rfl | rfl | rfl | rfl | rfl | rfl | rfl | rfl | rfl | rfl | rfl | rfl | rfl <;> simp [msk, h1, h2, h3] <;> omega
theorem rL_rK {key : List Int} (hk : Pl.By key) (hl : key.length = 32) : num (rL key 16) = rK key := by
  rw [rK_num hk hl, ← numN_num]
  congr 1
  refine ext_getD' (by simp [rL_len, msk, hl]) (fun i hi => ?_)
  rw [rL_len] at hi
  rw [rL_get key 16 i hi, rD_and hk i hi]
  have h1 : i < key.length := by omega
  have h2 : i < msk.length := hi
  simp only [List.getD_eq_getElem?_getD, List.getElem?_eq_getElem h1, List.getElem?_eq_getElem h2, Option.getD_some]
  rw [List.getElem?_eq_getElem (by simp [msk, hl]; omega)]
  simp

/-! ### Bytes put onto digits -/
def sI (n b : List Int) (o : Nat) : Nat → List Int
  | 0 => n
  | j + 1 => (sI n b o j).set j ((sI n b o j).getD j 0 + b.getD (o + j) 0)
theorem sI_len (n b : List Int) (o : Nat) : ∀ j, (sI n b o j).length = n.length
  | 0 => rfl
  | j + 1 => by simp [sI, sI_len n b o j]
theorem getD_drop' {xs : List Int} {n i : Nat} : (xs.drop n).getD i 0 = xs.getD (n + i) 0 := by
  simp [List.getD_eq_getElem?_getD, List.getElem?_drop]
theorem sI_num (n b : List Int) (o : Nat) : ∀ j, j ≤ n.length → num (sI n b o j) = num n + num ((b.drop o).take j)
  | 0, _ => by simp [sI, num]
  | j + 1, h => by
    rw [sI, num_set _ _ _ (by rw [sI_len]; omega), sI_num n b o j (by omega), num_take_any, getD_drop']
    split
    · omega
    · next hc =>
      have : b.getD (o + j) 0 = 0 := by
        rw [List.length_drop] at hc
        simp [List.getD_eq_getElem?_getD, List.getElem?_eq_none (show b.length ≤ o + j by omega)]
      rw [this]; omega
theorem sI_bd {n b : List Int} {o : Nat} {B C : Int} (hn : Bd B n) (hb : Bd C b) : ∀ j i, 0 ≤ (sI n b o j).getD i 0 ∧ (sI n b o j).getD i 0 < (if i < j then B + C - 1 else B)
  | 0, i => by simpa [sI] using hn i
  | j + 1, i => by
    have ih := sI_bd (o := o) hn hb j
    have hx := hb (o + j)
    have hB := hn 0
    rw [sI]
    by_cases hi : j = i
    · subst hi
      by_cases hl : j < (sI n b o j).length
      · rw [getD_set_self hl]
        have := ih j
        rw [if_neg (by omega)] at this
        rw [if_pos (by omega)]
        omega
      · rw [List.set_eq_of_length_le (by omega)]
        have := ih j
        rw [if_neg (by omega)] at this
        rw [if_pos (by omega)]
        omega
    · rw [getD_set_ne hi]
      have := ih i
      split at this <;> split <;> omega
theorem sI_take (n b : List Int) (o k : Nat) : ∀ j, j ≤ k → (sI n b o j).take k = sI (n.take k) b o j
  | 0, _ => rfl
  | j + 1, h => by
    rw [sI, sI, ← sI_take n b o k j (by omega), List.take_set]
    congr 2
    simp [List.getD_eq_getElem?_getD, List.getElem?_take, show j < k by omega]

/-! ### The product -/
def lJ (l s r : List Int) (i : Nat) : Nat → List Int
  | 0 => l
  | j + 1 => (lJ l s r i j).set (i + j) ((lJ l s r i j).getD (i + j) 0 + s.getD i 0 * r.getD j 0)
theorem lJ_len (l s r : List Int) (i : Nat) : ∀ j, (lJ l s r i j).length = l.length
  | 0 => rfl
  | j + 1 => by simp [lJ, lJ_len l s r i j]
def lI (s r : List Int) : Nat → List Int
  | 0 => List.replicate 40 0
  | i + 1 => lJ (lI s r i) s r i 16
theorem lI_len (s r : List Int) : ∀ i, (lI s r i).length = 40
  | 0 => by simp [lI]
  | i + 1 => by rw [lI, lJ_len, lI_len s r i]
theorem lJ_num {l s r : List Int} {i : Nat} (hl : l.length = 40) (hi : i ≤ 16) (hr : r.length = 16) : ∀ j, j ≤ 16 → num (lJ l s r i j) = num l + 256 ^ i * s.getD i 0 * num (r.take j)
  | 0, _ => by simp [lJ, num]
  | j + 1, h => by
    rw [lJ, num_set _ _ _ (by rw [lJ_len]; omega), lJ_num hl hi hr j (by omega), num_take_succ (by omega), Int.pow_add]
    grind
theorem lI_num {s r : List Int} (hs : s.length = 17) (hr : r.length = 16) : ∀ i, i ≤ 17 → num (lI s r i) = num (s.take i) * num r
  | 0, _ => by simp [lI, num, num_zeros]
  | i + 1, h => by
    rw [lI, lJ_num (lI_len s r i) (by omega) hr 16 (by omega), lI_num hs hr i (by omega), show r.take 16 = r from List.take_of_length_le (by omega), num_take_succ (xs := s) (k := i) (by omega)]
    grind
theorem prod_bd {x y : Int} (hx : 0 ≤ x ∧ x < 512) (hy : 0 ≤ y ∧ y < 256) : 0 ≤ x * y ∧ x * y ≤ 130305 := by
  refine ⟨Int.mul_nonneg hx.1 hy.1, ?_⟩
  have := Int.mul_le_mul (show x ≤ 511 by omega) (show y ≤ 255 by omega) hy.1 (by omega)
  omega
theorem lJ_bd {l s r : List Int} {i : Nat} {T : Int} (hl : ∀ c, 0 ≤ l.getD c 0 ∧ l.getD c 0 ≤ T) (hs : Bd 512 s) (hr : Bd 256 r) : ∀ j c, 0 ≤ (lJ l s r i j).getD c 0 ∧ (lJ l s r i j).getD c 0 ≤ (if c < i + j then T + 130305 else T)
  | 0, c => by
    have := hl c
    rw [lJ]
    split <;> omega
  | j + 1, c => by
    have ih := lJ_bd (i := i) hl hs hr j
    have hp := prod_bd (hs i) (hr j)
    rw [lJ]
    by_cases hc : i + j = c
    · subst hc
      have := ih (i + j)
      rw [if_neg (by omega)] at this
      rw [if_pos (by omega)]
      by_cases hl' : i + j < (lJ l s r i j).length
      · rw [getD_set_self hl']; omega
      · rw [List.set_eq_of_length_le (by omega)]; omega
    · rw [getD_set_ne hc]
      have := ih c
      split at this <;> split <;> omega
theorem lI_bd {s r : List Int} (hs : Bd 512 s) (hr : Bd 256 r) : ∀ i c, 0 ≤ (lI s r i).getD c 0 ∧ (lI s r i).getD c 0 ≤ i * 130305
  | 0, c => by
    rw [lI]
    simp only [List.getD_eq_getElem?_getD, List.getElem?_replicate]
    split <;> simp
  | i + 1, c => by
    rw [lI]
    have := lJ_bd (i := i) (lI_bd hs hr i) hs hr 16 c
    split at this <;> omega

/-! ### The rounds -/
def foldK (v : Int) : Nat := if vS v 0 < tM then 0 else if vS v 1 < tM then 1 else if vS v 2 < tM then 2 else 3
theorem foldK_ok {v : Int} (h : 0 ≤ v ∧ v < 115792089237316195423570985008687907853269984665640564039457584007913129639936) : vS v (foldK v) < tM ∧ ∀ k, k < foldK v → tM ≤ vS v k := by
  obtain ⟨K, h1, h2, h3⟩ := vS_end h
  have hK : foldK v = K := by
    unfold foldK
    have : K = 0 ∨ K = 1 ∨ K = 2 ∨ K = 3 := by omega
    rcases this with rfl | rfl | rfl | rfl
    · rw [if_pos h2]
    · have a0 := h3 0 (by omega)
      rw [if_neg (by omega), if_pos h2]
    · have a0 := h3 0 (by omega); have a1 := h3 1 (by omega)
      rw [if_neg (by omega), if_neg (by omega), if_pos h2]
    · have a0 := h3 0 (by omega); have a1 := h3 1 (by omega); have a2 := h3 2 (by omega)
      rw [if_neg (by omega), if_neg (by omega), if_neg (by omega)]
  rw [hK]
  exact ⟨h2, h3⟩
def uN (key m : List Int) : Nat → Int
  | 0 => 0
  | q + 1 => vS ((uN key m q + bv (m.drop (16 * q))) * num (rL key 16)) (foldK ((uN key m q + bv (m.drop (16 * q))) * num (rL key 16)))
def uP (key m : List Int) (q : Nat) : Int := (uN key m q + bv (m.drop (16 * q))) * num (rL key 16)
def nM (key m : List Int) : Nat → Nat
  | 0 => 17
  | q + 1 => mF (foldK (uP key m q))
theorem uN_ok {key m : List Int} (hk : Pl.By key) (hl : key.length = 32) (hm : Pl.By m) : ∀ q, (0 ≤ uN key m q ∧ uN key m q < tM) ∧ (0 ≤ uP key m q ∧ uP key m q < 115792089237316195423570985008687907853269984665640564039457584007913129639936) ∧ ∃ t, uN key m q = poly (rK key) m q - pM * t := by
  have hR := rK_range key
  have hP : ∀ q, 0 ≤ uN key m q ∧ uN key m q < tM → 0 ≤ uP key m q ∧ uP key m q < 115792089237316195423570985008687907853269984665640564039457584007913129639936 := by
    intro q hu
    have hb := bv_range (m := m.drop (16 * q)) (By.drop hm _)
    unfold uP
    rw [rL_rK hk hl]
    unfold tM at hu
    refine ⟨Int.mul_nonneg (by omega) hR.1, ?_⟩
    have := Int.mul_le_mul (show uN key m q + bv (m.drop (16 * q)) ≤ 2722258935367507707706996859454145691648 by omega) (show rK key ≤ 21267647932558653966460912964485513216 by omega) hR.1 (by omega)
    omega
  intro q
  induction q with
  | zero => exact ⟨⟨by simp [uN], by simp [uN, tM]⟩, hP 0 ⟨by simp [uN], by simp [uN, tM]⟩, 0, by simp [uN, poly]⟩
  | succ q ih =>
    obtain ⟨h1, h2, t, h3⟩ := ih
    have e : uN key m (q + 1) = vS (uP key m q) (foldK (uP key m q)) := rfl
    have hf := foldK_ok h2
    have hr := vS_range h2 (foldK (uP key m q))
    have h4 : 0 ≤ uN key m (q + 1) ∧ uN key m (q + 1) < tM := by rw [e]; exact ⟨hr.1, hf.1⟩
    refine ⟨h4, hP _ h4, ?_⟩
    obtain ⟨s, hs⟩ := vS_mod (uP key m q) (foldK (uP key m q))
    refine ⟨t * rK key + s, ?_⟩
    rw [e, hs, poly]
    unfold uP
    rw [rL_rK hk hl, h3]
    grind
theorem nM_ok (key m : List Int) : ∀ q, 17 ≤ nM key m q ∧ nM key m q ≤ 40
  | 0 => by simp [nM]
  | q + 1 => mF_ok _
def xF (u : Int) : Int := if pM ≤ u then u + 5 else u
theorem sumR_val {key m : List Int} (hk : Pl.By key) (hl : key.length = 32) (hm : Pl.By m) : byt 16 (xF (uN key m ((m.length + 15) / 16)) % 256 ^ 16 + num (key.drop 16)) = sumN key m := by
  rw [sum_val hk hl hm, ← byt_mod, ← byt_mod 16 (poly _ _ _ % pM + _)]
  congr 1
  obtain ⟨h1, _, t, h2⟩ := uN_ok hk hl hm ((m.length + 15) / 16)
  generalize uN key m ((m.length + 15) / 16) = u at *
  generalize poly (rK key) m ((m.length + 15) / 16) = p at *
  have e : p % pM = u % pM := by rw [h2, Int.sub_mul_emod_self_left]
  rw [e]
  have e16 : (256 : Int) ^ 16 = 340282366920938463463374607431768211456 := rfl
  rw [e16]
  unfold xF
  unfold pM tM at *
  split <;> omega
def oL (d : List Int) : Nat → List Int
  | 0 => List.replicate 16 0
  | i + 1 => (oL d i).set i (IntKind.u8.wrap (d.getD i 0))
theorem oL_len (d : List Int) : ∀ i, (oL d i).length = 16
  | 0 => by simp [oL]
  | i + 1 => by simp [oL, oL_len d i]
theorem oL_get (d : List Int) : ∀ n, n ≤ 16 → ∀ i, i < n → (oL d n).getD i 0 = IntKind.u8.wrap (d.getD i 0)
  | 0, _, i, h => by omega
  | n + 1, hn, i, h => by
    rw [oL]
    by_cases hi : n = i
    · subst hi; rw [getD_set_self (by rw [oL_len]; omega)]
    · rw [getD_set_ne hi]; exact oL_get d n (by omega) i (by omega)
theorem oL_byt (w : Int) (M : Nat) (h : 16 ≤ M) : oL (byt M w) 16 = byt 16 w := by
  refine ext_getD' (by rw [oL_len, byt_len]) (fun i hi => ?_)
  rw [oL_len] at hi
  rw [oL_get _ 16 (by omega) i hi, byt_get _ _ _ (by omega), byt_get _ _ _ hi, IntKind.wrap_u8]
  omega
end Go.Proofs.YtakgcmponelbeaaDoor.Tg
