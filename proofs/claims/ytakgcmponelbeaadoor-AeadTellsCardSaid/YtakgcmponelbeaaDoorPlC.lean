/- Plain: the arithmetic of Poly1305 in words. -/
import Derived.Laws.Entries
set_option linter.unusedVariables false
namespace Pl
/-- The number of three words. -/
def V3 (h : List Int) : Int := h.getD 0 0 + 18446744073709551616 * h.getD 1 0 + 340282366920938463463374607431768211456 * h.getD 2 0
def V2 (h : List Int) : Int := h.getD 0 0 + 18446744073709551616 * h.getD 1 0
def pM : Int := 1361129467683753853853498429727072845819
/-- 2^130. -/
def tM : Int := 1361129467683753853853498429727072845824

/-- The number of bytes, the lowest first. -/
def num : List Int → Int
  | [] => 0
  | x :: xs => x + 256 * num xs
theorem num_append (xs ys : List Int) : num (xs ++ ys) = num xs + 256 ^ xs.length * num ys := by
  induction xs with
  | nil => simp [num]
  | cons x xs ih =>
    simp only [List.cons_append, num, ih, List.length_cons, Int.pow_succ]
    rw [Int.mul_add, ← Int.mul_assoc, Int.mul_comm 256 (256 ^ xs.length), Int.add_assoc]
def By (xs : List Int) : Prop := ∀ x ∈ xs, 0 ≤ x ∧ x < 256
theorem num_range {xs : List Int} (h : By xs) : 0 ≤ num xs ∧ num xs < 256 ^ xs.length := by
  induction xs with
  | nil => simp [num]
  | cons x xs ih =>
    have h1 := h x (by simp)
    have h2 := ih (fun y hy => h y (by simp [hy]))
    simp only [num, List.length_cons, Int.pow_succ]
    omega
/-- So many digits of a number. -/
def byt : Nat → Int → List Int
  | 0, _ => []
  | n + 1, v => v % 256 :: byt n (v / 256)
theorem byt_len : ∀ n v, (byt n v).length = n
  | 0, _ => rfl
  | n + 1, v => by simp [byt, byt_len n]
theorem byt_by : ∀ n v, By (byt n v)
  | 0, _ => fun x h => by simp [byt] at h
  | n + 1, v => fun x h => by
    simp only [byt, List.mem_cons] at h
    rcases h with rfl | h
    · omega
    · exact byt_by n _ x h
theorem byt_num {xs : List Int} (h : By xs) : byt xs.length (num xs) = xs := by
  induction xs with
  | nil => rfl
  | cons x xs ih =>
    have h1 := h x (by simp)
    have h2 := ih (fun y hy => h y (by simp [hy]))
    simp only [num, List.length_cons, byt]
    rw [show (x + 256 * num xs) / 256 = num xs by omega, show (x + 256 * num xs) % 256 = x by omega, h2]
theorem num_byt : ∀ n v, num (byt n v) = v % 256 ^ n
  | 0, v => by simp [byt, num, Int.emod_one]
  | n + 1, v => by
    simp only [byt, num, num_byt n, Int.pow_succ]
    have h := Int.emod_add_mul_ediv v 256
    have h2 := Int.emod_add_mul_ediv (v / 256) (256 ^ n)
    have h3 : 0 < (256 : Int) ^ n := Int.pow_pos (by omega)
    have e : v = (v % 256 + 256 * (v / 256 % 256 ^ n)) + 256 ^ n * 256 * (v / 256 / 256 ^ n) := by
      rw [Int.mul_comm (256 ^ n) 256, Int.mul_assoc]
      generalize hg : 256 ^ n * (v / 256 / 256 ^ n) = g at *
      omega
    have h4 := Int.emod_nonneg (v / 256) (show (256 : Int) ^ n ≠ 0 by omega)
    have h5 := Int.emod_lt_of_pos (v / 256) h3
    have h6 := Int.emod_nonneg v (show (256 : Int) ≠ 0 by omega)
    have h7 := Int.emod_lt_of_pos v (show (0 : Int) < 256 by omega)
    have e2 := congrArg (· % (256 ^ n * 256)) e
    simp only [Int.add_mul_emod_self_left] at e2
    rw [e2]
    clear e e2 h h2
    exact (Int.emod_eq_of_lt (by omega) (by omega)).symm
theorem byt_mod (n : Nat) (v : Int) : byt n (v % 256 ^ n) = byt n v := by
  have h1 := num_byt n v
  have h2 := byt_num (byt_by n v)
  rw [byt_len] at h2
  rw [← h1, h2]
end Pl
