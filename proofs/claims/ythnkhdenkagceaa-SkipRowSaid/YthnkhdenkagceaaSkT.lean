/- Skipped keys: the store that a list of puts leaves (plain; for SkipDrops' first loop). -/
import Derived.Test.YthnkhdenkagceaaSkS
set_option linter.unusedVariables false
set_option linter.unusedSimpArgs false
namespace Go.Proofs.Ythnkhdenkagceaa
open Sx
set_option maxHeartbeats 1000000
/-- One round: what is taken stays if it is short. -/
def stU (s : List It) (x : It) : List It := if putE s x = 0 ∧ few x = true then putS s x else s
def stK (l : List It) : Nat → List It
  | 0 => []
  | k + 1 => stU (stK l k) (l.getD k default)
theorem putS_len (s : List It) (x : It) (h : putE s x = 0) : (putS s x).length = min (s.length + 1) 40 := by
  have hb : badI x = false := by
    cases hb : badI x with
    | false => rfl
    | true => rw [putE, hb] at h; simp at h
  have hh : ¬ 0 ≤ fI (isB x) s := by
    intro g; rw [putE, hb] at h; simp [g] at h
  rw [putS, hb]
  simp only [hh, decide_false, Bool.or_self, Bool.false_eq_true, if_false, List.length_drop, List.length_append, List.length_singleton]
  omega
theorem stU_le (s : List It) (x : It) (h : s.length ≤ 40) : (stU s x).length ≤ 40 := by
  rw [stU]; split
  · rename_i g; rw [putS_len s x g.1]; omega
  · exact h
theorem stU_pos (s : List It) (x : It) (h : s.length ≠ 0) : (stU s x).length ≠ 0 := by
  rw [stU]; split
  · rename_i g; rw [putS_len s x g.1]; omega
  · exact h
theorem stK_le (l : List It) : ∀ k, (stK l k).length ≤ 40
  | 0 => by simp [stK]
  | k + 1 => stU_le _ _ (stK_le l k)
theorem stU_new (x : It) : stU [] x = if badI x = false ∧ few x = true then [x] else [] := by
  have hf : ¬ 0 ≤ fI (isB x) [] := of_decide_eq_false rfl
  have hE : putE [] x = if badI x then 2 else 0 := by rw [putE]; simp only [hf, if_false]
  have hS : badI x = false → putS [] x = [x] := fun hb => by rw [putS, hb]; simp [hf]
  rw [stU, hE]
  cases hb : badI x <;> simp [hb, hS]
end Go.Proofs.Ythnkhdenkagceaa
