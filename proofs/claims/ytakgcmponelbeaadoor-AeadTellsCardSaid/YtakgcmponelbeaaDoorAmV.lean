/- Plain: the reference's block and what it turns are the program's. -/
import Derived.Test.YtakgcmponelbeaaDoorAmU
import Derived.Test.YtakgcmponelbeaaDoorAmP
set_option linter.unusedVariables false
set_option linter.unusedSimpArgs false
namespace Go.Proofs.YtakgcmponelbeaaDoor.Sm
open Sx
set_option maxRecDepth 100000
theorem word4_congr {xs ys : List Int} (h0 : xs.getD 0 0 = ys.getD 0 0) (h1 : xs.getD 1 0 = ys.getD 1 0) (h2 : xs.getD 2 0 = ys.getD 2 0) (h3 : xs.getD 3 0 = ys.getD 3 0) : word4 xs = word4 ys := by
  unfold word4; rw [h0, h1, h2, h3]
theorem getD_take' {xs : List Int} {n i : Nat} : (xs.take n).getD i 0 = if i < n then xs.getD i 0 else 0 := by
  by_cases h : i < n <;> simp [List.getD_eq_getElem?_getD, List.getElem?_take, h]
theorem Bt.take' {xs : List Int} (h : Bt xs) (n : Nat) : Bt (xs.take n) := by
  intro i
  rw [getD_take']
  split
  · exact h i
  · omega
theorem Bt.drop' {xs : List Int} (h : Bt xs) (n : Nat) : Bt (xs.drop n) := by
  intro i
  rw [getD_drop]
  exact h _
theorem wR_eq {xs : List Int} (h : Bt xs) (n m : Nat) (hm : 4 ≤ m) : word4R ((xs.drop n).take 4) = word4 ((xs.drop n).take m) := by
  rw [word4_eq (Bt.take' (Bt.drop' h n) 4)]
  refine word4_congr ?_ ?_ ?_ ?_ <;> rw [getD_take (by omega), getD_take (by omega)]
theorem skdrop {xs : List Int} (n : Nat) : (sigR ++ xs).drop (4 * (n + 4)) = xs.drop (4 * n) := by
  rw [List.drop_append]
  have h1 : sigR.length = 16 := rfl
  rw [h1, List.drop_of_length_le (by rw [h1]; omega), List.nil_append, show 4 * (n + 4) - 16 = 4 * n by omega]
theorem sig0 {xs : List Int} : word4R (((sigR ++ xs).drop (4 * 0)).take 4) = 1634760805 := by
  show word4R [101, 120, 112, 97] = _
  decide
theorem sig1 {xs : List Int} : word4R (((sigR ++ xs).drop (4 * 1)).take 4) = 857760878 := by
  show word4R [110, 100, 32, 51] = _
  decide
theorem sig2 {xs : List Int} : word4R (((sigR ++ xs).drop (4 * 2)).take 4) = 2036477234 := by
  show word4R [50, 45, 98, 121] = _
  decide
theorem sig3 {xs : List Int} : word4R (((sigR ++ xs).drop (4 * 3)).take 4) = 1797285236 := by
  show word4R [116, 101, 32, 107] = _
  decide
theorem init_eq {key nonce : List Int} (count : Int) (hK : Bt key) (hN : Bt nonce) : gN (fK (sigR ++ key) 12 ++ [count]) nonce 3 = initW key nonce count := by
  have k0 : word4R (((sigR ++ key).drop (4 * 4)).take 4) = word4 ((key.drop (4 * 0)).take (32 - 4 * 0)) := by
    rw [show (4 * 4 : Nat) = 4 * (0 + 4) from rfl, skdrop, wR_eq hK (4 * 0) (32 - 4 * 0) (by omega)]
  have k1 : word4R (((sigR ++ key).drop (4 * 5)).take 4) = word4 ((key.drop (4 * 1)).take (32 - 4 * 1)) := by
    rw [show (4 * 5 : Nat) = 4 * (1 + 4) from rfl, skdrop, wR_eq hK (4 * 1) (32 - 4 * 1) (by omega)]
  have k2 : word4R (((sigR ++ key).drop (4 * 6)).take 4) = word4 ((key.drop (4 * 2)).take (32 - 4 * 2)) := by
    rw [show (4 * 6 : Nat) = 4 * (2 + 4) from rfl, skdrop, wR_eq hK (4 * 2) (32 - 4 * 2) (by omega)]
  have k3 : word4R (((sigR ++ key).drop (4 * 7)).take 4) = word4 ((key.drop (4 * 3)).take (32 - 4 * 3)) := by
    rw [show (4 * 7 : Nat) = 4 * (3 + 4) from rfl, skdrop, wR_eq hK (4 * 3) (32 - 4 * 3) (by omega)]
  have k4 : word4R (((sigR ++ key).drop (4 * 8)).take 4) = word4 ((key.drop (4 * 4)).take (32 - 4 * 4)) := by
    rw [show (4 * 8 : Nat) = 4 * (4 + 4) from rfl, skdrop, wR_eq hK (4 * 4) (32 - 4 * 4) (by omega)]
  have k5 : word4R (((sigR ++ key).drop (4 * 9)).take 4) = word4 ((key.drop (4 * 5)).take (32 - 4 * 5)) := by
    rw [show (4 * 9 : Nat) = 4 * (5 + 4) from rfl, skdrop, wR_eq hK (4 * 5) (32 - 4 * 5) (by omega)]
  have k6 : word4R (((sigR ++ key).drop (4 * 10)).take 4) = word4 ((key.drop (4 * 6)).take (32 - 4 * 6)) := by
    rw [show (4 * 10 : Nat) = 4 * (6 + 4) from rfl, skdrop, wR_eq hK (4 * 6) (32 - 4 * 6) (by omega)]
  have k7 : word4R (((sigR ++ key).drop (4 * 11)).take 4) = word4 ((key.drop (4 * 7)).take (32 - 4 * 7)) := by
    rw [show (4 * 11 : Nat) = 4 * (7 + 4) from rfl, skdrop, wR_eq hK (4 * 7) (32 - 4 * 7) (by omega)]
  have n0 : word4R ((nonce.drop (4 * 0)).take 4) = word4 ((nonce.drop (4 * 0)).take (12 - 4 * 0)) := wR_eq hN (4 * 0) (12 - 4 * 0) (by omega)
  have n1 : word4R ((nonce.drop (4 * 1)).take 4) = word4 ((nonce.drop (4 * 1)).take (12 - 4 * 1)) := wR_eq hN (4 * 1) (12 - 4 * 1) (by omega)
  have n2 : word4R ((nonce.drop (4 * 2)).take 4) = word4 ((nonce.drop (4 * 2)).take (12 - 4 * 2)) := wR_eq hN (4 * 2) (12 - 4 * 2) (by omega)
  simp only [gN, fK, sig0, sig1, sig2, sig3, k0, k1, k2, k3, k4, k5, k6, k7, n0, n1, n2, initW, nonW, keyW, firstL]
  rfl
theorem nI_0 (v : Int) : nI v 0 = v := rfl
theorem nI_1 (v : Int) : nI v 1 = v / 256 := rfl
theorem nI_2 (v : Int) : nI v 2 = v / 65536 := by rw [show nI v 2 = v / 256 / 256 from rfl]; omega
theorem nI_3 (v : Int) : nI v 3 = v / 16777216 := by rw [show nI v 3 = v / 256 / 256 / 256 from rfl]; omega
theorem oI_get {out : List Int} {v : Int} {i : Nat} (hl : 4 * i + 4 ≤ out.length) (k : Nat) (hk : k < 4) : (oI out v i 4).getD (4 * i + k) 0 = IntKind.u8.wrap (nI v k) := by
  have e : IntKind.u8.wrap (nI v k % 256) = IntKind.u8.wrap (nI v k) := by rw [IntKind.wrap_u8, IntKind.wrap_u8]; omega
  rw [← e]
  simp only [oI]
  match k, hk with
  | 0, _ => rw [getD_set_ne (by omega), getD_set_ne (by omega), getD_set_ne (by omega), getD_set_self (by omega)]
  | 1, _ => rw [getD_set_ne (by omega), getD_set_ne (by omega), getD_set_self (by simp; omega)]
  | 2, _ => rw [getD_set_ne (by omega), getD_set_self (by simp; omega)]
  | 3, _ => rw [getD_set_self (by simp; omega)]
theorem oI_ne {out : List Int} {v : Int} {i j : Nat} (h : j / 4 ≠ i) : (oI out v i 4).getD j 0 = out.getD j 0 := by
  simp only [oI]
  rw [getD_set_ne (by omega), getD_set_ne (by omega), getD_set_ne (by omega), getD_set_ne (by omega)]
theorem oR_get (x f : List Int) : ∀ n, n ≤ 16 → ∀ j, j < 4 * n → (oR x f n).getD j 0 = IntKind.u8.wrap (nI (IntKind.u32.wrap (x.getD (j / 4) 0 + f.getD (j / 4) 0)) (j % 4))
  | 0, _, j, h => by omega
  | n + 1, hn, j, h => by
    rw [oR]
    by_cases hj : j / 4 = n
    · have := oI_get (out := oR x f n) (v := IntKind.u32.wrap (x.getD n 0 + f.getD n 0)) (i := n) (by rw [oR_len]; omega) (j % 4) (by omega)
      rw [show 4 * n + j % 4 = j by omega] at this
      rw [this, hj]
    · rw [oI_ne hj]
      exact oR_get x f n (by omega) j (by omega)
theorem outB_get (x w : List Int) : ∀ n, n ≤ 64 → ∀ j, j < n → (outB x w n).getD j 0 = IntKind.u8.wrap ((IntKind.u32.wrap (x.getD (j / 4) 0 + w.getD (j / 4) 0)).fdiv (2 ^ min (8 * (j % 4)) 32))
  | 0, _, j, h => by omega
  | n + 1, hn, j, h => by
    rw [outB]
    by_cases hj : n = j
    · subst hj
      rw [getD_set_self (by rw [outB_len]; omega)]
    · rw [getD_set_ne hj]
      exact outB_get x w n (by omega) j (by omega)
theorem fd_nI (v : Int) (k : Nat) (hk : k < 4) : v.fdiv (2 ^ min (8 * k) 32) = nI v k := by
  match k, hk with
  | 0, _ => rw [show (2 : Int) ^ min (8 * 0) 32 = 1 from rfl, nI_0, Int.fdiv_eq_ediv_of_nonneg _ (by omega)]; omega
  | 1, _ => rw [show (2 : Int) ^ min (8 * 1) 32 = 256 from rfl, nI_1, Int.fdiv_eq_ediv_of_nonneg _ (by omega)]
  | 2, _ => rw [show (2 : Int) ^ min (8 * 2) 32 = 65536 from rfl, nI_2, Int.fdiv_eq_ediv_of_nonneg _ (by omega)]
  | 3, _ => rw [show (2 : Int) ^ min (8 * 3) 32 = 16777216 from rfl, nI_3, Int.fdiv_eq_ediv_of_nonneg _ (by omega)]
theorem oR_eq (x f : List Int) : outB x f 64 = oR x f 16 := by
  refine ext_getD (by rw [outB_len, oR_len]) (fun j hj => ?_)
  rw [outB_len] at hj
  rw [outB_get x f 64 (by omega) j hj, oR_get x f 16 (by omega) j (by omega), fd_nI _ _ (by omega)]
theorem blockR_same {key nonce : List Int} (count : Int) (hk : key.length = 32) (hn : nonce.length = 12) (hK : Bt key) (hN : Bt nonce) : FnR Tryd.prog G 23 [.agg [.ints .u8 32 key], .agg [.ints .u8 12 nonce], .int .u32 count] [] (.agg [.ints .u8 64 (blockS key nonce count)]) [] := by
  refine blockR_fn key nonce count hk hn (fun x F2 hx hF => ?_)
  have e : F2 = initW key nonce count := hF.trans (init_eq count hK hN)
  unfold blockS
  rw [oR_eq, ← hx, e]
theorem xR_get (key nonce : List Int) (count : Int) (b : List Int) : ∀ n i, i < n → (xR key nonce count b n).getD i 0 = bits .xor .u8 (b.getD i 0) (kk key nonce count i)
  | 0, i, h => by omega
  | n + 1, i, h => by
    have hl := xR_len key nonce count b n
    rw [xR]
    by_cases hi : i = n
    · subst hi
      simp [List.getD_eq_getElem?_getD, List.getElem?_append, hl, kk]
    · rw [← xR_get key nonce count b n i (by omega)]
      simp [List.getD_eq_getElem?_getD, List.getElem?_append, hl, show i < n by omega]
theorem xR_eq (key nonce : List Int) (count : Int) (b : List Int) : xR key nonce count b b.length = xorO key nonce count b b.length := by
  refine ext_getD (by rw [xR_len, xorO_len]) (fun i hi => ?_)
  rw [xR_len] at hi
  rw [xR_get _ _ _ _ _ _ hi, xorO_get _ _ _ _ _ (Nat.le_refl _) i hi]
end Go.Proofs.YtakgcmponelbeaaDoor.Sm
