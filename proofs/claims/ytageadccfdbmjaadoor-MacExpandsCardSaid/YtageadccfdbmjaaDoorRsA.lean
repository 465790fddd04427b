/- The document's roots of primes, by digits of base 65536: what its loops come to (plain). -/
import Derived.Test.YtageadccfdbmjaaDoorSxW
import Derived.KernelRfl
set_option linter.unusedVariables false
set_option linter.unusedSimpArgs false
namespace Go.Proofs.YtageadccfdbmjaaDoor
open Sx
set_option maxHeartbeats 1000000
def W64 (x : Int) : Int := IntKind.u64.wrap x
theorem W64_in (x : Int) : 0 ≤ W64 x ∧ W64 x < 18446744073709551616 := by
  rw [W64, IntKind.wrap_u64]; omega
/-- The first number from i on of which it does not hold, up to so many. -/
def fst (P : Nat → Bool) : Nat → Nat → Nat
  | 0, i => i
  | f + 1, i => match P i with
    | true => fst P f (i + 1)
    | false => i
theorem fst_eq {P : Nat → Bool} {K : Nat} : ∀ f i, i ≤ K → K - i < f → (∀ j, i ≤ j → j < K → P j = true) → P K = false → fst P f i = K
  | 0, i, _, h2, _, _ => by omega
  | f + 1, i, h1, h2, h3, h4 => by
    by_cases hi : i = K
    · subst hi; rw [fst, h4]
    · rw [fst, h3 i (Nat.le_refl _) (by omega)]
      exact fst_eq f (i + 1) (by omega) (by omega) (fun j g1 g2 => h3 j (by omega) g2) h4
theorem gone_zero {c : Nat → Int} {L : Nat} (h0 : 0 ≤ c L ∧ c L < 18446744073709551616) (hs : ∀ i, L ≤ i → 0 ≤ c i → c i < 18446744073709551616 → c (i + 1) = c i / 65536) : c (L + 4) = 0 := by
  have h1 : c (L + 1) = c L / 65536 := hs L (by omega) h0.1 h0.2
  have h2 : c (L + 2) = c (L + 1) / 65536 := hs (L + 1) (by omega) (by omega) (by omega)
  have h3 : c (L + 3) = c (L + 2) / 65536 := hs (L + 2) (by omega) (by omega) (by omega)
  have h4 : c (L + 4) = c (L + 3) / 65536 := hs (L + 3) (by omega) (by omega) (by omega)
  omega
theorem div_digit {c : Int} (h0 : 0 ≤ c) (h1 : c < 18446744073709551616) : W64 (c.tdiv 65536) = c / 65536 := by
  rw [W64, IntKind.wrap_u64, Int.tdiv_eq_ediv_of_nonneg h0]; omega
/-! ### times -/
def stT (l : List Int) (n : Int) : Nat → List Int × Int
  | 0 => ([], 0)
  | i + 1 => match stT l n i with
    | (o, c) => if i < l.length then (o ++ [(W64 (c + W64 (l.getD i 0 * n.tmod 65536))).tmod 65536], W64 ((W64 (c + W64 (l.getD i 0 * n.tmod 65536))).tdiv 65536)) else (o ++ [c.tmod 65536], W64 (c.tdiv 65536))
def gT (l : List Int) (n : Int) (i : Nat) : Bool := decide (i < l.length) || decide (0 < (stT l n i).2)
def kT (l : List Int) (n : Int) : Nat := fst (gT l n) (l.length + 6) 0
theorem stT_lt (l : List Int) (n : Int) {i : Nat} (h : i < l.length) : stT l n (i + 1) = ((stT l n i).1 ++ [(W64 ((stT l n i).2 + W64 (l.getD i 0 * n.tmod 65536))).tmod 65536], W64 ((W64 ((stT l n i).2 + W64 (l.getD i 0 * n.tmod 65536))).tdiv 65536)) := by
  rw [stT]; generalize stT l n i = s; cases s; exact if_pos h
theorem stT_ge (l : List Int) (n : Int) {i : Nat} (h : ¬ i < l.length) : stT l n (i + 1) = ((stT l n i).1 ++ [(stT l n i).2.tmod 65536], W64 ((stT l n i).2.tdiv 65536)) := by
  rw [stT]; generalize stT l n i = s; cases s; exact if_neg h
theorem stT_in (l : List Int) (n : Int) : ∀ i, 0 ≤ (stT l n i).2 ∧ (stT l n i).2 < 18446744073709551616
  | 0 => by rw [stT]; decide
  | i + 1 => by
    by_cases h : i < l.length
    · rw [stT_lt l n h]; exact W64_in _
    · rw [stT_ge l n h]; exact W64_in _
theorem stT_end (l : List Int) (n : Int) : (stT l n (l.length + 4)).2 = 0 :=
  gone_zero (c := fun i => (stT l n i).2) (stT_in l n _) fun i hi g1 g2 => by
    show (stT l n (i + 1)).2 = _
    rw [stT_ge l n (by omega)]; exact div_digit g1 g2
theorem stT_len (l : List Int) (n : Int) : ∀ i, (stT l n i).1.length = i
  | 0 => rfl
  | i + 1 => by
    by_cases h : i < l.length
    · rw [stT_lt l n h, List.length_append, stT_len l n i]; rfl
    · rw [stT_ge l n h, List.length_append, stT_len l n i]; rfl
theorem gT_le {l : List Int} {n : Int} {i : Nat} (h : ∀ j, j < i → gT l n j = true) : i ≤ l.length + 4 := by
  apply Nat.le_of_not_lt
  intro hi
  have := h (l.length + 4) hi
  rw [gT, stT_end] at this
  simp at this
  omega
theorem kT_eq {l : List Int} {n : Int} {i : Nat} (h : ∀ j, j < i → gT l n j = true) (hn : gT l n i = false) : kT l n = i :=
  fst_eq _ 0 (by omega) (by have := gT_le h; omega) (fun j _ hj => h j hj) hn
/-! ### plus -/
def stP (a b : List Int) : Nat → List Int × Int
  | 0 => ([], 0)
  | i + 1 => match stP a b i with
    | (o, c) => let c1 := if i < a.length then W64 (c + a.getD i 0) else c
                let c2 := if i < b.length then W64 (c1 + b.getD i 0) else c1
                (o ++ [c2.tmod 65536], W64 (c2.tdiv 65536))
def pA (a : List Int) (i : Nat) (c : Int) : Int := if i < a.length then W64 (c + a.getD i 0) else c
theorem stP_s (a b : List Int) (i : Nat) : stP a b (i + 1) = ((stP a b i).1 ++ [(pA b i (pA a i (stP a b i).2)).tmod 65536], W64 ((pA b i (pA a i (stP a b i).2)).tdiv 65536)) := rfl
def gP (a b : List Int) (i : Nat) : Bool := decide (i < a.length) || (decide (i < b.length) || decide (0 < (stP a b i).2))
def kP (a b : List Int) : Nat := fst (gP a b) (a.length + b.length + 6) 0
def plusN (a b : List Int) : List Int := (stP a b (kP a b)).1
theorem stP_in (a b : List Int) : ∀ i, 0 ≤ (stP a b i).2 ∧ (stP a b i).2 < 18446744073709551616
  | 0 => by rw [stP]; decide
  | i + 1 => by rw [stP_s]; exact W64_in _
theorem stP_end (a b : List Int) : (stP a b (max a.length b.length + 4)).2 = 0 :=
  gone_zero (c := fun i => (stP a b i).2) (stP_in a b _) fun i hi g1 g2 => by
    show (stP a b (i + 1)).2 = _
    rw [stP_s, pA, pA, if_neg (by omega), if_neg (by omega)]; exact div_digit g1 g2
theorem stP_len (a b : List Int) : ∀ i, (stP a b i).1.length = i
  | 0 => rfl
  | i + 1 => by rw [stP_s, List.length_append, stP_len a b i]; rfl
theorem gP_le {a b : List Int} {i : Nat} (h : ∀ j, j < i → gP a b j = true) : i ≤ max a.length b.length + 4 := by
  apply Nat.le_of_not_lt
  intro hi
  have := h (max a.length b.length + 4) hi
  rw [gP, stP_end] at this
  simp at this
  omega
theorem kP_eq {a b : List Int} {i : Nat} (h : ∀ j, j < i → gP a b j = true) (hn : gP a b i = false) : kP a b = i :=
  fst_eq _ 0 (by omega) (by have := gP_le h; omega) (fun j _ hj => h j hj) hn
/-! ### times1, times -/
def stU (l : List Int) (n : Int) : Nat → (List Int × List Int) × (Int × Int)
  | 0 => (([], []), (0, 0))
  | i + 1 => match stU l n i with
    | ((lo, hi), (c, d)) =>
      let x := if i < l.length then l.getD i 0 else 0
      let c := W64 (c + W64 (x * n.tmod 65536))
      let d := W64 (d + W64 (x * W64 (n.tdiv 65536)))
      ((lo ++ [c.tmod 65536], hi ++ [d.tmod 65536]), (W64 (c.tdiv 65536), W64 (d.tdiv 65536)))
def times1N (l : List Int) (n : Int) : List Int := plusN (stU l n (l.length + 3)).1.1 (0 :: (stU l n (l.length + 3)).1.2)
def timesN (l : List Int) (n : Int) : List Int :=
  if n < 65536 then (stT l n (kT l n)).1 else plusN (stT l n (kT l n)).1 (0 :: times1N l (W64 (n.tdiv 65536)))
/-! ### above, root -/
def dg (a : List Int) (i : Nat) : Int := if i < a.length then a.getD i 0 else 0
def aboveK (a b : List Int) : Nat → Bool
  | 0 => false
  | i + 1 => if dg a i = dg b i then aboveK a b i else decide (dg b i < dg a i)
def aboveN (a b : List Int) : Bool := aboveK a b (max a.length b.length)
def powN (m : Int) : Nat → List Int
  | 0 => timesN [1] m
  | i + 1 => timesN (powN m i) m
def mostN (p : Int) : Nat → List Int
  | 0 => [p]
  | i + 1 => 0 :: 0 :: mostN p i
def rootK (p : Int) (pw : Nat) : Nat → Int × Int
  | 0 => (0, 68719476736)
  | i + 1 => match rootK p pw i with
    | (n, bit) => (if aboveN (powN (W64 (n + W64 (bit.tdiv 2))) (pw - 1)) (mostN p pw) then n else W64 (n + W64 (bit.tdiv 2)), W64 (bit.tdiv 2))
def rootN (p : Int) (pw : Nat) : Int := IntKind.u32.wrap ((rootK p pw 36).1.tmod 4294967296)
def prK : Nat → List Int
  | 0 => []
  | k + 1 => if (prK k).all (fun q => !(((k + 2 : Nat) : Int).tmod q == 0)) then prK k ++ [((k + 2 : Nat) : Int)] else prK k
end Go.Proofs.YtageadccfdbmjaaDoor
