/- Skipped keys: what calls in a row come to (plain; for SkipActs). -/
import Derived.Test.YthnkhdenkagceaaSkY
import Derived.Test.YthnkhdenkagceaaSkV
set_option linter.unusedVariables false
set_option linter.unusedSimpArgs false
namespace Go.Proofs.Ythnkhdenkagceaa
open Sx
set_option maxHeartbeats 1000000
structure Ac where
  kd : Int
  x : It
instance : Inhabited Ac := ⟨⟨0, default⟩⟩
def acV (a : Ac) : AV := .agg [.int .u8 a.kd, .str a.x.h, .int .i64 a.x.n, .str a.x.k]
def rk (a : Ac) : Int := a.kd.tmod 8
/-- One call. -/
def acS (S : List It) (a : Ac) : List It :=
  if few a.x then (if rk a = 5 ∨ rk a = 6 then takS S a.x.h a.x.n else if rk a = 7 then noH a.x.h S else putS S a.x) else S
def acN (b : Bool) (a : Ac) : Bool := b && (!few a.x || decide (rk a = 5) || decide (rk a = 6) || decide (rk a = 7) || badI a.x)
def acK (l : List Ac) : Nat → List It
  | 0 => []
  | k + 1 => acS (acK l k) (l.getD k default)
/-- Is there no store yet? -/
def acB (l : List Ac) : Nat → Bool
  | 0 => true
  | k + 1 => acN (acB l k) (l.getD k default)
theorem putS_le (S : List It) (x : It) (h : S.length ≤ 40) : (putS S x).length ≤ 40 := by
  rw [putS]; split
  · exact h
  · rw [List.length_drop, List.length_append, List.length_singleton]; omega
theorem takS_le (l : List It) (h : ByteArray) (n : Int) : (takS l h n).length ≤ l.length := by
  rw [takS]
  split
  · omega
  · rw [outL, List.length_append, List.length_take, List.length_drop]; omega
theorem acS_le (S : List It) (a : Ac) (h : S.length ≤ 40) : (acS S a).length ≤ 40 := by
  have h1 := takS_le S a.x.h a.x.n
  have h2 := noH_len a.x.h S
  have h3 := putS_le S a.x h
  unfold acS; split
  · split
    · omega
    · split <;> omega
  · exact h
theorem acK_le (l : List Ac) : ∀ k, (acK l k).length ≤ 40
  | 0 => by simp [acK]
  | k + 1 => acS_le _ _ (acK_le l k)
theorem takS_nil (h : ByteArray) (n : Int) : takS [] h n = [] := rfl
theorem noH_nil (h : ByteArray) : noH h [] = [] := rfl
theorem putS_nil (x : It) : putS [] x = if badI x then [] else [x] := by
  have hf : ¬ 0 ≤ fI (isB x) [] := of_decide_eq_false rfl
  rw [putS]; cases badI x <;> simp [hf]
theorem acK_nil (l : List Ac) : ∀ k, acB l k = true → acK l k = []
  | 0, _ => rfl
  | k + 1, h => by
    rw [acB, acN, Bool.and_eq_true] at h
    rw [acK, acK_nil l k h.1]
    have h2 := h.2
    unfold acS
    split
    · rename_i hf
      rw [hf] at h2
      simp only [Bool.not_true, Bool.false_or, Bool.or_eq_true, decide_eq_true_eq] at h2
      split
      · rfl
      · split
        · rfl
        · rename_i h5 h7
          rw [putS_nil, if_pos]
          rcases h2 with ((h2 | h2) | h2) | h2
          · exact absurd (.inl h2) h5
          · exact absurd (.inr h2) h5
          · exact absurd h2 h7
          · exact h2
    · rfl
/-- No two of one head and number. -/
def uni (S : List It) : Prop := S.Pairwise fun y x => isB x y = false
theorem uni_sub {S T : List It} (h : List.Sublist S T) (hu : uni T) : uni S := List.Pairwise.sublist h hu
theorem outL_sub (l : List It) (i j : Nat) (h : i ≤ j) : List.Sublist (outL l i j) l := by
  rw [outL]
  have e : l = l.take i ++ l.drop i := (List.take_append_drop i l).symm
  have e2 : List.Sublist (l.drop j) (l.drop i) := by
    have : l.drop j = (l.drop i).drop (j - i) := by rw [List.drop_drop, show i + (j - i) = j by omega]
    rw [this]; exact List.drop_sublist _ _
  calc
    List.Sublist (l.take i ++ l.drop j) (l.take i ++ l.drop i) := List.Sublist.append (List.Sublist.refl _) e2
    _ = l := List.take_append_drop i l
theorem uni_tak {S : List It} (h : ByteArray) (n : Int) (hu : uni S) : uni (takS S h n) := by
  rw [takS]; split
  · exact hu
  · exact uni_sub (outL_sub _ _ _ (by omega)) hu
theorem uni_no {S : List It} (h : ByteArray) (hu : uni S) : uni (noH h S) := uni_sub List.filter_sublist hu
theorem uni_put {S : List It} (x : It) (hu : uni S) : uni (putS S x) := by
  rw [putS]; split
  · exact hu
  · rename_i hh
    refine uni_sub (List.drop_sublist _ _) ?_
    rw [uni, List.pairwise_append]
    refine ⟨hu, by simp, fun y hy z hz => ?_⟩
    rw [List.mem_singleton] at hz
    subst hz
    rcases fI_spec (isB z) S with ⟨_, h⟩ | ⟨f, hf, h, _⟩
    · exact h y hy
    · exfalso; apply hh; rw [h]; simp
theorem acS_uni {S : List It} (a : Ac) (hu : uni S) : uni (acS S a) := by
  unfold acS; split
  · split
    · exact uni_tak _ _ hu
    · split
      · exact uni_no _ hu
      · exact uni_put _ hu
  · exact hu
theorem acK_uni (l : List Ac) : ∀ k, uni (acK l k)
  | 0 => List.Pairwise.nil
  | k + 1 => acS_uni _ (acK_uni l k)
theorem uni_get {S : List It} (hu : uni S) {i j : Nat} (hi : i < S.length) (hj : j < i) : isB S[i] (S[j]'(by omega)) = false := by
  rw [uni, List.pairwise_iff_getElem] at hu
  exact hu j i (by omega) hi hj
theorem ac_get (l : List Ac) (k : Nat) (h : k < l.length) : (l.map acV).getD k default = acV l[k] := by
  simp [List.getD_eq_getElem?_getD, h]
theorem viewEL_acs {e h : Ents} : ∀ l : List Ac, viewEL e h 0 l.length (l.map acV) = ret (l.map acV)
  | [] => by simp [viewEL]
  | x :: l => by
    rw [List.map_cons, List.length_cons, viewEL, viewEL_acs l]
    simp [acV, viewE, req, ret, bnd, AV.nmIn, AV.nmInL]
theorem nm_acs (N : Nat → Prop) : ∀ l : List Ac, AV.nmInL N (l.map acV) = True
  | [] => eq_true trivial
  | x :: l => by rw [List.map_cons]; simp [AV.nmInL, nm_acs N l, acV, AV.nmIn]
theorem ml_acs (f : Nat → Nat) : ∀ l : List Ac, AV.mapL f (l.map acV) = l.map acV
  | [] => rfl
  | x :: l => by rw [List.map_cons]; simp [AV.mapL, ml_acs f l, acV, AV.map]
end Go.Proofs.Ythnkhdenkagceaa
