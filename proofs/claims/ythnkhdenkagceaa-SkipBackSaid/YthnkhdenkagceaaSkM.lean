/- Skipped keys: what the statements' arguments are. -/
import Derived.Test.YthnkhdenkagceaaSkL
import Derived.Test.YthnkhdenkagceaaSxW
set_option linter.unusedVariables false
set_option linter.unusedSimpArgs false
namespace Go.Proofs.Ythnkhdenkagceaa
open Sx
def shIt : Sh := .st [.str, .int .i64, .str]
theorem it_of {cs : List AV} (h : Opn shIt cs) : ∃ x : It, cs = [.str x.h, .int .i64 x.n, .str x.k] := by
  obtain ⟨_, _, rfl, ⟨s, rfl, _⟩, _, _, rfl, ⟨n, rfl, _⟩, _, _, rfl, ⟨k, rfl, _⟩, rfl⟩ := h
  exact ⟨⟨s, n, k⟩, rfl⟩
theorem its_of : ∀ {av : List AV}, (∀ a ∈ av, ∃ cs, Opn shIt cs ∧ a = oneA true cs) → ∃ l : List It, av = l.map itV
  | [], _ => ⟨[], rfl⟩
  | a :: av, h => by
    obtain ⟨cs, h1, rfl⟩ := h a (by simp)
    obtain ⟨x, rfl⟩ := it_of h1
    obtain ⟨l, rfl⟩ := its_of (av := av) (fun b hb => h b (by simp [hb]))
    exact ⟨x :: l, rfl⟩
theorem back_fn (l : List It) (x : It) : FnR Try.prog G 7 [.lst 3 (l.map itV), itV x] [] (.bool true) [] := by
  by_cases h0 : l.length = 0
  · obtain rfl := List.length_eq_zero_iff.1 h0
    cases hb : badI x with
    | true => exact back_nil_bad x hb
    | false => exact back_nil_new x hb
  · cases hb : (badI x || decide (0 ≤ fI (isB x) l)) with
    | false => exact back_new l x h0 hb
    | true =>
      refine back_same l x h0 hb (putE l x) rfl ?_
      unfold putE
      split
      · rfl
      · next hn =>
        have : 0 ≤ fI (isB x) l := by
          rw [Bool.or_eq_true, decide_eq_true_eq] at hb
          rcases hb with h | h
          · exact absurd h hn
          · exact h
        rw [if_pos this]; rfl
end Go.Proofs.Ythnkhdenkagceaa
