/- A block: the document's words and steps are the code's (plain). -/
import Derived.Test.YtageadccfdbmjaaDoorRsP
set_option linter.unusedVariables false
set_option linter.unusedSimpArgs false
namespace Go.Proofs.YtageadccfdbmjaaDoor
open Sx
set_option maxRecDepth 100000
set_option maxHeartbeats 1000000
theorem xor0 {a : Nat} (h : a < 4294967296) : bits .xor .u32 0 (a : Int) = a := by
  have := bits_xor (k := .u32) (a := 0) (b := a) rfl (by decide) h
  rw [Nat.zero_xor] at this
  exact this
theorem rot_tn {v : Int} (h0 : 0 ≤ v) (h1 : v < 4294967296) {k : Nat} (hk : 0 < k) (hk2 : k < 32) : rotN v (32 - k) = tnK v k ∧ bits .xor .u32 0 (tnK v k) = tnK v k := by
  obtain ⟨n, rfl⟩ := Int.eq_ofNat_of_zero_le h0
  have hn : n < 4294967296 := by omega
  rw [rotN_nat hn hk hk2, tnK_nat hn k (by omega)]
  exact ⟨rfl, xor0 (tR_lt hn (by omega))⟩
theorem sh_fd {v : Int} (h0 : 0 ≤ v) (h1 : v < 4294967296) (s : Nat) : v.fdiv (2 ^ s) = shK v s := by
  obtain ⟨n, rfl⟩ := Int.eq_ofNat_of_zero_le h0
  rw [shK_nat (by omega) s, Int.fdiv_eq_ediv_of_nonneg _ (Int.le_of_lt (Int.pow_pos (by omega))), Int.natCast_ediv, Int.natCast_pow]
  rfl
theorem tu2 {v : Int} (h0 : 0 ≤ v) (h1 : v < 4294967296) : tu v [17, 19] = bits .xor .u32 (tnK v 17) (tnK v 19) ∧ tu v [7, 18] = bits .xor .u32 (tnK v 7) (tnK v 18) := by
  constructor
  · show bits .xor .u32 (bits .xor .u32 0 (rotN v (32 - 17))) (rotN v (32 - 19)) = _
    rw [(rot_tn h0 h1 (k := 17) (by omega) (by omega)).1, (rot_tn h0 h1 (k := 19) (by omega) (by omega)).1, (rot_tn h0 h1 (k := 17) (by omega) (by omega)).2]
  · show bits .xor .u32 (bits .xor .u32 0 (rotN v (32 - 7))) (rotN v (32 - 18)) = _
    rw [(rot_tn h0 h1 (k := 7) (by omega) (by omega)).1, (rot_tn h0 h1 (k := 18) (by omega) (by omega)).1, (rot_tn h0 h1 (k := 7) (by omega) (by omega)).2]
theorem tu3 {v : Int} (h0 : 0 ≤ v) (h1 : v < 4294967296) : tu v [6, 11, 25] = x3 v 6 11 25 ∧ tu v [2, 13, 22] = x3 v 2 13 22 := by
  constructor
  · show bits .xor .u32 (bits .xor .u32 (bits .xor .u32 0 (rotN v (32 - 6))) (rotN v (32 - 11))) (rotN v (32 - 25)) = _
    rw [(rot_tn h0 h1 (k := 6) (by omega) (by omega)).1, (rot_tn h0 h1 (k := 11) (by omega) (by omega)).1, (rot_tn h0 h1 (k := 25) (by omega) (by omega)).1, (rot_tn h0 h1 (k := 6) (by omega) (by omega)).2]; rfl
  · show bits .xor .u32 (bits .xor .u32 (bits .xor .u32 0 (rotN v (32 - 2))) (rotN v (32 - 13))) (rotN v (32 - 22)) = _
    rw [(rot_tn h0 h1 (k := 2) (by omega) (by omega)).1, (rot_tn h0 h1 (k := 13) (by omega) (by omega)).1, (rot_tn h0 h1 (k := 22) (by omega) (by omega)).1, (rot_tn h0 h1 (k := 2) (by omega) (by omega)).2]; rfl
theorem sch_eq (w w' : List Int) (i : Nat) (h2 : w.getD (i - 2) 0 = w'.getD (i - 2) 0) (h15 : w.getD (i - 15) 0 = w'.getD (i - 15) 0) (h7 : w.getD (i - 7) 0 = w'.getD (i - 7) 0) (h16 : w.getD (i - 16) 0 = w'.getD (i - 16) 0)
    (g2 : 0 ≤ w'.getD (i - 2) 0 ∧ w'.getD (i - 2) 0 < 4294967296) (g15 : 0 ≤ w'.getD (i - 15) 0 ∧ w'.getD (i - 15) 0 < 4294967296) : sch w i = scR w' i := by
  rw [sch, scR, h2, h15, h7, h16, (tu2 g2.1 g2.2).1, (tu2 g15.1 g15.2).2, xR, xR]
  have e : IntKind.u32.bits = 32 := rfl
  rw [e, show min 10 32 = 10 by decide, show min 3 32 = 3 by decide, sh_fd g2.1 g2.2, sh_fd g15.1 g15.2]
theorem wrd_eq (b : List Int) (i : Nat) (hb : Bt b) : wrd b i = wk4 b i 4 := by
  obtain ⟨a0, a1⟩ := hb (4 * i)
  obtain ⟨b0, b1⟩ := hb (4 * i + 1)
  obtain ⟨c0, c1⟩ := hb (4 * i + 2)
  obtain ⟨d0, d1⟩ := hb (4 * i + 3)
  have e : IntKind.u32.bits = 32 := rfl
  simp only [wrd, wk4, Nat.add_zero, e]
  generalize b.getD (4 * i) 0 = p at *
  generalize b.getD (4 * i + 1) 0 = q at *
  generalize b.getD (4 * i + 2) 0 = r at *
  generalize b.getD (4 * i + 3) 0 = s at *
  rw [show min 24 32 = 24 by decide, show min 16 32 = 16 by decide, show min 8 32 = 8 by decide]
  have e1 : IntKind.u32.wrap (IntKind.u32.wrap p * 2 ^ 24) = p * 16777216 := by rw [IntKind.wrap_u32, IntKind.wrap_u32]; omega
  have e2 : IntKind.u32.wrap (IntKind.u32.wrap q * 2 ^ 16) = q * 65536 := by rw [IntKind.wrap_u32, IntKind.wrap_u32]; omega
  have e3 : IntKind.u32.wrap (IntKind.u32.wrap r * 2 ^ 8) = r * 256 := by rw [IntKind.wrap_u32, IntKind.wrap_u32]; omega
  have e4 : IntKind.u32.wrap s = s := by rw [IntKind.wrap_u32]; omega
  rw [e1, e2, e3, e4]
  clear e1 e2 e3 e4
  have o1 : bits .or .u32 (p * 16777216) (q * 65536) = p * 16777216 + q * 65536 := bits_join .u32 32 (by decide) u32w 24 _ _ (by omega) (by omega) (by omega) (by omega) (by omega) (by omega)
  have o2 : bits .or .u32 (p * 16777216 + q * 65536) (r * 256) = p * 16777216 + q * 65536 + r * 256 := bits_join .u32 32 (by decide) u32w 16 _ _ (by omega) (by omega) (by omega) (by omega) (by omega) (by omega)
  have o3 : bits .or .u32 (p * 16777216 + q * 65536 + r * 256) s = p * 16777216 + q * 65536 + r * 256 + s := bits_join .u32 32 (by decide) u32w 8 _ _ (by omega) (by omega) (by omega) (by omega) (by omega) (by omega)
  rw [o1, o2, o3]
  simp only [IntKind.wrap_u32]
  omega
/-! ### The words of a block -/
theorem wR_rg (b : List Int) : ∀ i, Rg (wR b i)
  | 0 => fun i => by rw [wR]; simp
  | i + 1 => fun j => by
    have ih := wR_rg b i
    rw [wR]
    by_cases hj : j < (wR b i).length
    · rw [List.getD_eq_getElem?_getD, List.getElem?_append_left hj, ← List.getD_eq_getElem?_getD]; exact ih j
    · rw [List.getD_eq_getElem?_getD, List.getElem?_append_right (by omega)]
      by_cases h0 : j - (wR b i).length = 0
      · rw [h0, List.getElem?_cons_zero]
        split
        · exact wr32 _
        · exact wr32 _
      · rw [List.getElem?_eq_none (by simp; omega)]; simp
theorem wN_take (b : List Int) (hb : Bt b) : ∀ i, i ≤ 64 → (wN b i).take i = wR b i
  | 0, _ => by rw [List.take_zero]; rfl
  | i + 1, hi => by
    have ih := wN_take b hb i (by omega)
    have hl := wN_len b i
    have hlt : i < (wN b i).length := by omega
    have hg : ∀ j, j < i → (wN b i).getD j 0 = (wR b i).getD j 0 := fun j hj => by
      rw [← ih, List.getD_eq_getElem?_getD, List.getD_eq_getElem?_getD, List.getElem?_take_of_lt hj]
    have hv : (if i < 16 then wrd b i else sch (wN b i) i) = (if i < 16 then wk4 b i 4 else scR (wR b i) i) := by
      split
      · exact wrd_eq b i hb
      · exact sch_eq _ _ i (hg _ (by omega)) (hg _ (by omega)) (hg _ (by omega)) (hg _ (by omega)) (wR_rg b i _) (wR_rg b i _)
    rw [wN, wR, hv, ← ih]
    generalize (if i < 16 then wk4 b i 4 else scR ((wN b i).take i) i) = x at *
    generalize wN b i = L at *
    rw [List.take_succ_eq_append_getElem (by rw [List.length_set]; exact hlt), List.take_set_of_le (Nat.le_refl _), List.getElem_set_self]
theorem wN_eq (b : List Int) (hb : Bt b) : wN b 64 = wR b 64 := by
  have := wN_take b hb 64 (Nat.le_refl _)
  rwa [List.take_of_length_le (by rw [wN_len]; omega)] at this
end Go.Proofs.YtageadccfdbmjaaDoor
