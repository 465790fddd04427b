/- Plain: the reference's carry and folding as numbers. -/
import Derived.Test.YtakgcmponelbeaaDoorAgS
import Derived.Test.YtakgcmponelbeaaDoorAgE
import Derived.Test.YtakgcmponelbeaaDoorSxW
set_option linter.unusedVariables false
set_option linter.unusedSimpArgs false
namespace Go.Proofs.YtakgcmponelbeaaDoor.Tg
open Sx Pl
set_option maxRecDepth 100000
def Bd (B : Int) (xs : List Int) : Prop := ∀ i, 0 ≤ xs.getD i 0 ∧ xs.getD i 0 < B
theorem pow_pos' (k : Nat) : (0 : Int) < 256 ^ k := Int.pow_pos (by omega)
theorem byt_low (n : Nat) (v x : Int) : byt n (v + 256 ^ n * x) = byt n v := by rw [← byt_mod, Int.add_mul_emod_self_left, byt_mod]
theorem byt_succ (n : Nat) (v : Int) : byt (n + 1) v = byt n v ++ [v / 256 ^ n % 256] := by rw [byt_app]; rfl
theorem num_take_any (xs : List Int) (k : Nat) : num (xs.take (k + 1)) = num (xs.take k) + 256 ^ k * (if k < xs.length then xs.getD k 0 else 0) := by
  split
  · next h => exact num_take_succ h
  · next h => rw [List.take_of_length_le (by omega), List.take_of_length_le (by omega)]; omega
theorem carC_eq (xs : List Int) : ∀ k, carC xs k = (byt k (num (xs.take k)), num (xs.take k) / 256 ^ k)
  | 0 => by simp [carC, byt, num]
  | k + 1 => by
    have P := pow_pos' k
    rw [carC, carC_eq xs k, num_take_any, byt_succ, byt_low]
    have e : (num (xs.take k) + 256 ^ k * (if k < xs.length then xs.getD k 0 else 0)) / 256 ^ k = num (xs.take k) / 256 ^ k + (if k < xs.length then xs.getD k 0 else 0) := Int.add_mul_ediv_left _ _ (by omega)
    rw [e, Int.pow_succ, ← Int.ediv_ediv_of_nonneg (by omega), e]
theorem num_nn {xs : List Int} {B : Int} (h : Bd B xs) : ∀ k, 0 ≤ num (xs.take k)
  | 0 => by simp [num]
  | k + 1 => by
    have P := pow_pos' k
    rw [num_take_any]
    have := num_nn h k
    have h2 := h k
    have : 0 ≤ 256 ^ k * (if k < xs.length then xs.getD k 0 else 0) := Int.mul_nonneg (by omega) (by split <;> omega)
    omega
theorem pow_le' {j k : Nat} (h : j ≤ k) : (256 : Int) ^ j ≤ 256 ^ k := by
  have : (256 : Nat) ^ j ≤ 256 ^ k := Nat.pow_le_pow_right (by omega) h
  exact_mod_cast this
theorem carry_at (X : Nat) (xs : List Int) (n M : Nat) (hx : Bd 1000000000 xs) (hM : M < 1000000000) (hM0 : 0 < M) (hl : xs.length ≤ M) (hn : n ≤ M) (hlt : num xs < 256 ^ M)
    (hge : M ≤ n ∨ M ≤ xs.length ∨ 256 ^ (M - 1) ≤ num xs) : FnR Tryd.prog G 35 [.lstI .i64 xs, .int .i64 n] [] (.sl X 1 0 M) [(X, .vec 3 (.ints .i64 (byt M (num xs))))] := by
  have ht : ∀ k, xs.length ≤ k → xs.take k = xs := fun k h => List.take_of_length_le h
  have h0 := num_nn hx xs.length
  rw [ht _ (Nat.le_refl _)] at h0
  have h := carry_own xs n M hx hM hM0 ?_ ⟨hl, ?_, hn⟩
  · rw [carC_eq, ht M hl] at h
    have h2 := h.rename 1000 X
    simpa [AV.map, AV.mapL, swp, enMap, Ent.map, Row.map] using h2
  · intro k hk
    rcases Nat.lt_or_ge k xs.length with c | c
    · exact Or.inl c
    rcases Nat.lt_or_ge k n with d | d
    · exact Or.inr (Or.inr d)
    refine Or.inr (Or.inl ?_)
    rw [carC_eq, ht k c]
    have hg : 256 ^ (M - 1) ≤ num xs := by
      rcases hge with h | h | h
      · omega
      · omega
      · exact h
    have h2 : (256 : Int) ^ k ≤ 256 ^ (M - 1) := pow_le' (by omega)
    have P := pow_pos' k
    have : 1 ≤ num xs / 256 ^ k := (Int.le_ediv_iff_mul_le P).2 (by omega)
    show 0 < num xs / 256 ^ k
    omega
  · rw [carC_eq, ht M hl]
    exact Int.ediv_eq_zero_of_lt h0 hlt
theorem byt_get : ∀ (n : Nat) (v : Int) (i : Nat), i < n → (byt n v).getD i 0 = v / 256 ^ i % 256
  | 0, v, i, h => by omega
  | n + 1, v, i, h => by
    rw [byt_succ]
    by_cases hi : i = n
    · subst hi
      simp [List.getD_eq_getElem?_getD, List.getElem?_append, byt_len]
    · rw [← byt_get n v i (by omega)]
      simp [List.getD_eq_getElem?_getD, List.getElem?_append, byt_len, show i < n by omega]
theorem byt_bd (n : Nat) (v : Int) : Bd 256 (byt n v) := fun i => getD_by (byt_by n v) i

/-! ### The folding -/
def vS (v : Int) : Nat → Int
  | 0 => v
  | k + 1 => vS v k % tM + 5 * (vS v k / tM)
def mF : Nat → Nat
  | 0 => 40
  | _ + 1 => 17
theorem mF_ok : ∀ k, 17 ≤ mF k ∧ mF k ≤ 40
  | 0 => by simp [mF]
  | _ + 1 => by simp [mF]
theorem vS_range {v : Int} (h : 0 ≤ v ∧ v < 115792089237316195423570985008687907853269984665640564039457584007913129639936) : ∀ k, 0 ≤ vS v k ∧ vS v k < 115792089237316195423570985008687907853269984665640564039457584007913129639936 ∧ (0 < k → vS v k < 2722258935367507707706996859454145691648)
  | 0 => ⟨h.1, h.2, fun h => by omega⟩
  | k + 1 => by
    have ih := vS_range h k
    have e : vS v (k + 1) = vS v k % tM + 5 * (vS v k / tM) := rfl
    unfold tM at e
    omega
theorem vS_lt {v : Int} (h : 0 ≤ v ∧ v < 115792089237316195423570985008687907853269984665640564039457584007913129639936) (k : Nat) : vS v k < 256 ^ mF k := by
  have ih := vS_range h k
  match k with
  | 0 => have e : (256 : Int) ^ mF 0 = 2135987035920910082395021706169552114602704522356652769947041607822219725780640550022962086936576 := rfl
         rw [e]; omega
  | k + 1 => have e : (256 : Int) ^ mF (k + 1) = 87112285931760246646623899502532662132736 := rfl
             rw [e]; have := ih.2.2 (by omega); omega
theorem vS_mod (v : Int) : ∀ k, ∃ q, vS v k = v - pM * q
  | 0 => ⟨0, by simp [vS]⟩
  | k + 1 => by
    obtain ⟨q, hq⟩ := vS_mod v k
    refine ⟨q + vS v k / tM, ?_⟩
    have e : vS v (k + 1) = vS v k % tM + 5 * (vS v k / tM) := rfl
    unfold tM at e
    unfold pM at hq ⊢
    unfold tM
    omega
theorem vS_end {v : Int} (h : 0 ≤ v ∧ v < 115792089237316195423570985008687907853269984665640564039457584007913129639936) : ∃ K, K ≤ 3 ∧ vS v K < tM ∧ ∀ k, k < K → tM ≤ vS v k := by
  by_cases c0 : vS v 0 < tM
  · exact ⟨0, by omega, c0, fun k hk => by omega⟩
  by_cases c1 : vS v 1 < tM
  · refine ⟨1, by omega, c1, fun k hk => ?_⟩
    have : k = 0 := by omega
    subst this; omega
  by_cases c2 : vS v 2 < tM
  · refine ⟨2, by omega, c2, fun k hk => ?_⟩
    have : k = 0 ∨ k = 1 := by omega
    rcases this with rfl | rfl <;> omega
  refine ⟨3, by omega, ?_, fun k hk => ?_⟩
  · have r1 := (vS_range h 1).2.2 (by omega)
    have e2 : vS v 2 = vS v 1 % tM + 5 * (vS v 1 / tM) := rfl
    have e3 : vS v 3 = vS v 2 % tM + 5 * (vS v 2 / tM) := rfl
    have r1' := (vS_range h 1).1
    unfold tM at *
    omega
  · have : k = 0 ∨ k = 1 ∨ k = 2 := by omega
    rcases this with rfl | rfl | rfl <;> omega
def xJ (d : List Int) (j : Nat) : Int := d.getD (16 + j) 0 / 4 + (if 17 + j < d.length then d.getD (17 + j) 0 % 4 * 64 else 0)
def fO (d o : List Int) : Nat → List Int
  | 0 => o
  | j + 1 => if j < 17 then (fO d o j).set j ((fO d o j).getD j 0 + 5 * xJ d j) else fO d o j
theorem fO_len (d o : List Int) : ∀ j, (fO d o j).length = o.length
  | 0 => rfl
  | j + 1 => by rw [fO]; split <;> simp [fO_len d o j]
theorem xJ_ok {d : List Int} (hd : Bd 256 d) (j : Nat) : 0 ≤ xJ d j ∧ xJ d j < 256 := by
  have h1 := hd (16 + j)
  have h2 := hd (17 + j)
  unfold xJ
  split <;> omega
theorem fO_bd {d o : List Int} (hd : Bd 256 d) (ho : Bd 256 o) : ∀ j i, 0 ≤ (fO d o j).getD i 0 ∧ (fO d o j).getD i 0 < (if i < j then 1536 else 256)
  | 0, i => by simpa [fO] using ho i
  | j + 1, i => by
    have ih := fO_bd hd ho j
    have hx := xJ_ok hd j
    rw [fO]
    by_cases hj : j < 17
    · rw [if_pos hj]
      by_cases hi : j = i
      · subst hi
        by_cases hl : j < (fO d o j).length
        · rw [getD_set_self hl]
          have := ih j
          rw [if_neg (by omega)] at this
          rw [if_pos (by omega)]
          omega
        · rw [List.set_eq_of_length_le (by omega)]
          have := ih j
          rw [if_neg (by omega)] at this
          rw [if_pos (by omega)]
          omega
      · rw [getD_set_ne hi]
        have := ih i
        split at this <;> split <;> omega
    · rw [if_neg hj]
      have := ih i
      split at this <;> split <;> omega
theorem num_set : ∀ (l : List Int) (k : Nat) (a : Int), k < l.length → num (l.set k (l.getD k 0 + a)) = num l + 256 ^ k * a
  | [], k, a, h => by simp at h
  | x :: xs, 0, a, h => by simp [num]; omega
  | x :: xs, k + 1, a, h => by
    have ih := num_set xs k a (by simpa using h)
    rw [List.set_cons_succ, List.getD_cons_succ, num, ih, num, Int.pow_succ, Int.mul_add, Int.mul_comm (256 ^ k) 256, Int.mul_assoc]
    omega
theorem tM_pow : (4 : Int) * 256 ^ 16 = tM := rfl
theorem tM_pow' : (256 : Int) ^ 16 * 4 = tM := rfl
theorem xJ_val {v : Int} {M j : Nat} (h0 : 0 ≤ v) (hM : v < 256 ^ M) (hj : 16 + j < M) : xJ (byt M v) j = v / tM / 256 ^ j % 256 := by
  unfold xJ
  obtain ⟨u, hu⟩ : ∃ u, v / 256 ^ (16 + j) = u := ⟨_, rfl⟩
  have P := pow_pos' (16 + j)
  have e1 : (byt M v).getD (16 + j) 0 = u % 256 := by rw [byt_get _ _ _ hj, hu]
  have e3 : v / tM / 256 ^ j = u / 4 := by
    rw [← hu, Int.ediv_ediv_of_nonneg (by unfold tM; omega), Int.ediv_ediv_of_nonneg (by omega), Int.pow_add, ← tM_pow']
    congr 1
    rw [Int.mul_assoc, Int.mul_assoc, Int.mul_comm 4]
  have hu0 : 0 ≤ u := by rw [← hu]; exact Int.ediv_nonneg h0 (by omega)
  rw [e1, e3, byt_len]
  split
  · next h =>
    have e2 : (byt M v).getD (17 + j) 0 = u / 256 % 256 := by
      rw [byt_get _ _ _ h, ← hu, Int.ediv_ediv_of_nonneg (by omega), show 17 + j = 16 + j + 1 by omega, Int.pow_succ]
    rw [e2]; omega
  · next h =>
    have hMj : M = 16 + j + 1 := by omega
    have : u < 256 := by
      rw [← hu]
      refine Int.ediv_lt_of_lt_mul P ?_
      rw [hMj, Int.pow_succ, Int.mul_comm] at hM
      exact hM
    omega
theorem mod_succ (w : Int) (j : Nat) : w % 256 ^ (j + 1) = w % 256 ^ j + 256 ^ j * (w / 256 ^ j % 256) := by
  rw [← num_byt (j + 1) w, byt_succ, num_append, num_byt, byt_len]
  simp [num]
theorem fO_num {v : Int} {M : Nat} {o : List Int} (h0 : 0 ≤ v) (hM : v < 256 ^ M) (ho : o.length = 17) : ∀ j, 16 + j ≤ M → num (fO (byt M v) o j) = num o + 5 * (v / tM % 256 ^ min j 17)
  | 0, _ => by simp [fO, Int.emod_one]
  | j + 1, hj => by
    have ih := fO_num (o := o) h0 hM ho j (by omega)
    rw [fO]
    by_cases h : j < 17
    · rw [if_pos h, num_set _ _ _ (by rw [fO_len]; omega), ih, xJ_val h0 hM (by omega), show min (j + 1) 17 = j + 1 by omega, show min j 17 = j by omega, mod_succ]
      generalize v / tM % 256 ^ j = a
      generalize v / tM / 256 ^ j % 256 = b
      rw [Int.mul_add, Int.mul_left_comm]
      omega
    · rw [if_neg h, ih, show min (j + 1) 17 = 17 by omega, show min j 17 = 17 by omega]
def oS (v : Int) : List Int := (byt 17 v).set 16 (v / 256 ^ 16 % 256 % 4)
theorem oS_len (v : Int) : (oS v).length = 17 := by simp [oS, byt_len]
theorem oS_bd (v : Int) : Bd 256 (oS v) := by
  intro i
  unfold oS
  by_cases hi : 16 = i
  · subst hi; rw [getD_set_self (by rw [byt_len]; omega)]; omega
  · rw [getD_set_ne hi]; exact byt_bd 17 v i
theorem oS_num (v : Int) : num (oS v) = v % tM := by
  have h := num_set (byt 17 v) 16 (v / 256 ^ 16 % 256 % 4 - v / 256 ^ 16 % 256) (by rw [byt_len]; omega)
  rw [byt_get 17 v 16 (by omega), show v / 256 ^ 16 % 256 + (v / 256 ^ 16 % 256 % 4 - v / 256 ^ 16 % 256) = v / 256 ^ 16 % 256 % 4 by omega, num_byt] at h
  unfold oS
  rw [h, show (256 : Int) ^ 16 = 340282366920938463463374607431768211456 from rfl, show (256 : Int) ^ 17 = 87112285931760246646623899502532662132736 from rfl]
  unfold tM
  omega
theorem fO_val {v : Int} {M : Nat} (h : 0 ≤ v ∧ v < 115792089237316195423570985008687907853269984665640564039457584007913129639936) (hM : v < 256 ^ M) (hM1 : 17 ≤ M) (hM2 : M ≤ 40) : num (fO (byt M v) (oS v) (M - 16)) = v % tM + 5 * (v / tM) := by
  rw [fO_num h.1 hM (oS_len v) (M - 16) (by omega), oS_num]
  have hw : 0 ≤ v / tM := Int.ediv_nonneg h.1 (by unfold tM; omega)
  have h1 : v / tM < 256 ^ min (M - 16) 17 := by
    rcases Nat.lt_or_ge 17 (M - 16) with c | c
    · rw [Nat.min_eq_right (by omega), show (256 : Int) ^ 17 = 87112285931760246646623899502532662132736 from rfl]
      unfold tM; omega
    · rw [Nat.min_eq_left c]
      refine Int.ediv_lt_of_lt_mul (by unfold tM; omega) ?_
      have P := pow_pos' (M - 16)
      have e : (256 : Int) ^ M = 256 ^ (M - 16) * 256 ^ 16 := by rw [← Int.pow_add]; congr 1; omega
      have : (256 : Int) ^ (M - 16) * 256 ^ 16 ≤ 256 ^ (M - 16) * tM := Int.mul_le_mul_of_nonneg_left (by rw [← tM_pow]; omega) (by omega)
      omega
  rw [Int.emod_eq_of_lt hw h1]
def hiN (d : List Int) : Nat → Int
  | 0 => 0
  | j + 1 => if hiN d j < d.getD (17 + j) 0 then d.getD (17 + j) 0 else hiN d j
theorem hiN_ok {d : List Int} (hd : Bd 256 d) : ∀ j, 0 ≤ hiN d j ∧ hiN d j < 256 ∧ (hiN d j = 0 ↔ ∀ i, i < j → d.getD (17 + i) 0 = 0)
  | 0 => by simp [hiN]
  | j + 1 => by
    obtain ⟨h1, h1', h2⟩ := hiN_ok hd j
    have h3 := hd (17 + j)
    rw [hiN]
    refine ⟨by split <;> omega, by split <;> omega, ?_⟩
    constructor
    · intro h i hi
      have hz : hiN d j = 0 ∧ d.getD (17 + j) 0 = 0 := by split at h <;> omega
      by_cases hij : i = j
      · rw [hij]; exact hz.2
      · exact h2.1 hz.1 i (by omega)
    · intro h
      have ha := h j (by omega)
      have hb := h2.2 (fun i hi => h i (by omega))
      split <;> omega
theorem hiN_lt {v : Int} {M : Nat} (h0 : 0 ≤ v) (h : v < 256 ^ 17) : hiN (byt M v) (M - 17) = 0 := by
  rw [(hiN_ok (byt_bd M v) _).2.2]
  intro i hi
  rw [byt_get _ _ _ (by omega), Int.pow_add, ← Int.ediv_ediv_of_nonneg (by omega), Int.ediv_eq_zero_of_lt h0 h]
  simp
theorem hiN_ge {v : Int} {M : Nat} (h0 : 0 ≤ v) (hM : v < 256 ^ M) (hM1 : 17 ≤ M) (h : hiN (byt M v) (M - 17) = 0) : v < 256 ^ 17 := by
  rw [(hiN_ok (byt_bd M v) _).2.2] at h
  have hz : ∀ n, n ≤ M - 17 → v / 256 ^ 17 % 256 ^ n = 0 := by
    intro n
    induction n with
    | zero => intro _; simp [Int.emod_one]
    | succ n ih =>
      intro hn
      have := h n (by omega)
      rw [byt_get _ _ _ (by omega), Int.pow_add, ← Int.ediv_ediv_of_nonneg (by omega)] at this
      rw [mod_succ, ih (by omega), this]; simp
  have := hz (M - 17) (Nat.le_refl _)
  have P := pow_pos' (M - 17)
  have hlt : v / 256 ^ 17 < 256 ^ (M - 17) := by
    refine Int.ediv_lt_of_lt_mul (by omega) ?_
    rw [← Int.pow_add, show M - 17 + 17 = M by omega]; exact hM
  rw [Int.emod_eq_of_lt (Int.ediv_nonneg h0 (by omega)) hlt] at this
  omega
end Go.Proofs.YtakgcmponelbeaaDoor.Tg
