/- The document's digest is the code's (plain). -/
import Derived.Test.YtageadccfdbmjaaDoorRsQ
import Derived.Test.YtageadccfdbmjaaDoorRsO
set_option linter.unusedVariables false
set_option linter.unusedSimpArgs false
namespace Go.Proofs.YtageadccfdbmjaaDoor
open Sx
set_option maxRecDepth 100000
set_option maxHeartbeats 1000000
theorem rnd_eq (x w : List Int) (i : Nat) (hx : x.length = 8) (hr : Rg x) : rnd x w i = qS x w constL i := by
  have h1 : rT x w i = qT x w constL i := by rw [rT, qT, (tu3 (hr 4).1 (hr 4).2).1]
  have h2 : rU x = qU x := by rw [rU, qU, (tu3 (hr 0).1 (hr 0).2).2]
  rw [rnd, qS, h1, h2]
  generalize qT x w constL i = t
  generalize qU x = u
  clear h1 h2 hr
  match x, hx with
  | [a, b, c, d, e, f, g, h], _ => rfl
theorem qS_rg {x : List Int} (w : List Int) (i : Nat) (hr : Rg x) : Rg (qS x w constL i) := fun j => by
  match j with
  | 0 => exact wr32 _
  | 1 => exact hr 0
  | 2 => exact hr 1
  | 3 => exact hr 2
  | 4 => exact wr32 _
  | 5 => exact hr 4
  | 6 => exact hr 5
  | 7 => exact hr 6
  | j + 8 => rw [List.getD_eq_getElem?_getD, List.getElem?_eq_none (by rw [qS]; simp)]; simp
theorem rndN_eq (s w : List Int) (hs : s.length = 8) (hr : Rg s) : ∀ k, rndN s w k = qN s w constL k ∧ Rg (qN s w constL k)
  | 0 => ⟨rfl, hr⟩
  | k + 1 => by
    obtain ⟨h1, h2⟩ := rndN_eq s w hs hr k
    rw [rndN, qN, h1]
    exact ⟨rnd_eq _ w k (qN_len s w constL hs k) h2, qS_rg w k h2⟩
theorem qA_get (s x : List Int) : ∀ n i, i < n → (qA s x n).getD i 0 = IntKind.u32.wrap (s.getD i 0 + x.getD i 0)
  | n + 1, i, h => by
    rw [qA, List.getD_eq_getElem?_getD]
    by_cases hi : i < n
    · rw [List.getElem?_append_left (by rw [qA_len]; exact hi), ← List.getD_eq_getElem?_getD, qA_get s x n i hi]
    · obtain rfl : i = n := by omega
      rw [List.getElem?_append_right (by rw [qA_len]; omega), qA_len, Nat.sub_self]; rfl
theorem adq (s x : List Int) (hs : s.length = 8) : adN s x 8 = qA s x 8 := by
  obtain ⟨g1, _, g3⟩ := adN_get s x 8 (by omega)
  refine ext_getD (by rw [g3, qA_len]; omega) (fun i hi => ?_)
  rw [g1 i (by omega), qA_get s x 8 i (by omega)]
theorem mix_eq (s b : List Int) (hs : s.length = 8) (hr : Rg s) (hb : Bt b) : mixN s b = blkR s constL b := by
  rw [mixN, blkR, wN_eq b hb, (rndN_eq s _ hs hr 64).1, adq s _ hs]
theorem bl_eq (f : List Int) (hf : ∀ x ∈ f, 0 ≤ x ∧ x < 256) : ∀ j, blN startL f j = blK f j
  | 0 => rfl
  | j + 1 => by
    have h1 : Rg (blN startL f j) := blN_rg startL_rg f j
    have h2 : (blN startL f j).length = 8 := blN_len startL f startL_len j
    rw [blN, blK, ← bl_eq f hf j]
    exact mix_eq _ _ h2 h1 (Bt.of_mem fun x hx => hf x (List.mem_of_mem_drop (List.mem_of_mem_take hx)))
/-! ### The bytes of a state -/
theorem out_step (l : List Int) (i : Nat) (v : Int) (h0 : 0 ≤ v) (h1 : v < 4294967296) :
    (((l.set (4 * i) (IntKind.u8.wrap (v.fdiv (2 ^ min 24 IntKind.u32.bits)))).set (4 * i + 1) (IntKind.u8.wrap (v.fdiv (2 ^ min 16 IntKind.u32.bits)))).set (4 * i + 2) (IntKind.u8.wrap (v.fdiv (2 ^ min 8 IntKind.u32.bits)))).set (4 * i + 3) (IntKind.u8.wrap v) = (inR l i v 4).1 := by
  have e : IntKind.u32.bits = 32 := rfl
  have n1 : IntKind.u32.wrap (v.tdiv 256) = v / 256 := by rw [Int.tdiv_eq_ediv_of_nonneg h0, IntKind.wrap_u32]; omega
  have n2 : IntKind.u32.wrap ((v / 256).tdiv 256) = v / 65536 := by rw [Int.tdiv_eq_ediv_of_nonneg (by omega), IntKind.wrap_u32]; omega
  have n3 : IntKind.u32.wrap ((v / 65536).tdiv 256) = v / 16777216 := by rw [Int.tdiv_eq_ediv_of_nonneg (by omega), IntKind.wrap_u32]; omega
  have f3 : v.fdiv (2 ^ min 24 32) = v / 16777216 := Int.fdiv_eq_ediv_of_nonneg _ (by decide)
  have f2 : v.fdiv (2 ^ min 16 32) = v / 65536 := Int.fdiv_eq_ediv_of_nonneg _ (by decide)
  have f1 : v.fdiv (2 ^ min 8 32) = v / 256 := Int.fdiv_eq_ediv_of_nonneg _ (by decide)
  have t : ∀ x : Int, 0 ≤ x → IntKind.u8.wrap (x.tmod 256) = IntKind.u8.wrap x := fun x hx => by
    rw [Int.tmod_eq_emod_of_nonneg hx, IntKind.wrap_u8, IntKind.wrap_u8]; omega
  simp only [inR, e, f1, f2, f3, n1, n2, n3, t v h0, t (v / 256) (by omega), t (v / 65536) (by omega), t (v / 16777216) (by omega), Nat.sub_zero, Nat.sub_self, Nat.reduceSub, Nat.add_zero]
  have h23 : 4 * i + 2 ≠ 4 * i + 3 := by omega
  have h13 : 4 * i + 1 ≠ 4 * i + 3 := by omega
  have h03 : 4 * i ≠ 4 * i + 3 := by omega
  have h12 : 4 * i + 1 ≠ 4 * i + 2 := by omega
  have h02 : 4 * i ≠ 4 * i + 2 := by omega
  have h01 : 4 * i ≠ 4 * i + 1 := by omega
  rw [List.set_comm _ _ h23, List.set_comm _ _ h13, List.set_comm _ _ h03, List.set_comm _ _ h12, List.set_comm _ _ h02, List.set_comm _ _ h01]
theorem oW_eq (X : List Int) (i : Nat) (hi : i < 8) : oW (S X) i = (B X).getD i 0 := by
  obtain ⟨h1, _, _⟩ := suN_get (B X) startL 8 (by rw [B_len]; omega)
  have hr : Rg (B X) := blN_rg startL_rg X _
  have := hr i
  rw [oW, S, h1 i hi, IntKind.wrap_u32, IntKind.wrap_u32]
  omega
theorem out_eq (X : List Int) : ∀ k, k ≤ 8 → outS (S X) k = outR (B X) k
  | 0, _ => rfl
  | k + 1, hk => by
    have hr : Rg (B X) := blN_rg startL_rg X _
    rw [outS, outR, out_eq X k (by omega), oW_eq X k (by omega), out_step _ k _ (hr k).1 (hr k).2]
theorem end_eq (b : List Int) (hb : b.length ≤ 100000) : b ++ endN (R b) (b.length : Int) = filN b := by
  have hp : padZ (R b) = zsN b := by rw [padZ, R_len]; rfl
  have hv : IntKind.u64.wrap (8 * IntKind.u64.wrap (b.length : Int)) = 8 * (b.length : Int) := by rw [IntKind.wrap_u64, IntKind.wrap_u64]; omega
  have hv2 : IntKind.u64.wrap (8 * (b.length : Int)) = 8 * (b.length : Int) := by rw [IntKind.wrap_u64]; omega
  rw [endN, filN, hp, hv, hv2, fzK]
  have h0 : 0 ≤ 8 * (b.length : Int) := by omega
  have h1 : 8 * (b.length : Int) < 18446744073709551616 := by omega
  generalize 8 * (b.length : Int) = v at *
  have e : IntKind.u64.bits = 64 := rfl
  have q : ∀ x : Int, 0 ≤ x → x < 18446744073709551616 → IntKind.u64.wrap (x.tdiv 256) = x / 256 := fun x g0 g1 => by
    rw [Int.tdiv_eq_ediv_of_nonneg g0, IntKind.wrap_u64]; omega
  have t : ∀ x : Int, 0 ≤ x → IntKind.u8.wrap (x.tmod 256) = IntKind.u8.wrap x := fun x hx => by
    rw [Int.tmod_eq_emod_of_nonneg hx, IntKind.wrap_u8, IntKind.wrap_u8]; omega
  have f : ∀ n : Nat, v.fdiv (2 ^ n) = v / 2 ^ n := fun n => Int.fdiv_eq_ediv_of_nonneg _ (Int.le_of_lt (Int.pow_pos (by omega)))
  have hn : (nbK v 8).1 = [IntKind.u8.wrap (v / 72057594037927936), IntKind.u8.wrap (v / 281474976710656), IntKind.u8.wrap (v / 1099511627776), IntKind.u8.wrap (v / 4294967296), IntKind.u8.wrap (v / 16777216), IntKind.u8.wrap (v / 65536), IntKind.u8.wrap (v / 256), IntKind.u8.wrap v] := by
    have d1 : IntKind.u64.wrap (v.tdiv 256) = v / 256 := q v h0 h1
    have d2 : IntKind.u64.wrap ((v / 256).tdiv 256) = v / 65536 := by rw [q _ (by omega) (by omega)]; omega
    have d3 : IntKind.u64.wrap ((v / 65536).tdiv 256) = v / 16777216 := by rw [q _ (by omega) (by omega)]; omega
    have d4 : IntKind.u64.wrap ((v / 16777216).tdiv 256) = v / 4294967296 := by rw [q _ (by omega) (by omega)]; omega
    have d5 : IntKind.u64.wrap ((v / 4294967296).tdiv 256) = v / 1099511627776 := by rw [q _ (by omega) (by omega)]; omega
    have d6 : IntKind.u64.wrap ((v / 1099511627776).tdiv 256) = v / 281474976710656 := by rw [q _ (by omega) (by omega)]; omega
    have d7 : IntKind.u64.wrap ((v / 281474976710656).tdiv 256) = v / 72057594037927936 := by rw [q _ (by omega) (by omega)]; omega
    simp only [nbK, d1, d2, d3, d4, d5, d6, d7]
    rw [t _ h0, t _ (by omega), t _ (by omega), t _ (by omega), t _ (by omega), t _ (by omega), t _ (by omega), t _ (by omega)]
  rw [hn]
  simp only [beL, e, Nat.mul_zero, Nat.sub_zero, Nat.reduceMul, Nat.reduceSub, Nat.mul_one]
  rw [show min 56 64 = 56 by decide, show min 48 64 = 48 by decide, show min 40 64 = 40 by decide, show min 32 64 = 32 by decide, show min 24 64 = 24 by decide, show min 16 64 = 16 by decide, show min 8 64 = 8 by decide, show min 0 64 = 0 by decide]
  simp only [f]
  simp [List.append_assoc]
theorem fil_bytes (b : List Int) (hf : ∀ x ∈ b, 0 ≤ x ∧ x < 256) : ∀ x ∈ filN b, 0 ≤ x ∧ x < 256 := by
  intro x hx
  rw [filN, fzK, List.mem_append, List.mem_append, List.mem_append] at hx
  rcases hx with ((hx | hx) | hx) | hx
  · exact hf x hx
  · rw [List.mem_singleton] at hx; omega
  · have := List.eq_of_mem_replicate hx; omega
  · generalize IntKind.u64.wrap (8 * IntKind.u64.wrap (b.length : Int)) = v at hx
    have : ∀ k, ∀ x ∈ (nbK v k).1, 0 ≤ x ∧ x < 256 := by
      intro k
      induction k with
      | zero => intro x hx; cases hx
      | succ k ih =>
        intro x hx
        rw [nbK_s] at hx
        rcases List.mem_cons.1 hx with rfl | hx
        · rw [IntKind.wrap_u8]; omega
        · exact ih x hx
    exact this 8 x hx
/-- The document's digest is the code's. -/
theorem sumR_dig (b : List Int) (hb : b.length ≤ 100000) (hf : ∀ x ∈ b, 0 ≤ x ∧ x < 256) : sumR b = dig b := by
  rw [dig, digN, wrS_app, end_eq b hb, out_eq _ 8 (Nat.le_refl _), B, bl_eq _ (fil_bytes b hf), sumR]
end Go.Proofs.YtageadccfdbmjaaDoor
