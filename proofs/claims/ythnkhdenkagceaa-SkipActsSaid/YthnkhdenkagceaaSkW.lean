/- Skipped keys: what the statements' arguments are (as in SkM, for the other statements). -/
import Derived.Test.YthnkhdenkagceaaSkA
import Derived.Test.YthnkhdenkagceaaSxW
set_option linter.unusedVariables false
set_option linter.unusedSimpArgs false
namespace Go.Proofs.Ythnkhdenkagceaa
open Sx
def shIt : Sh := .st [.str, .int .i64, .str]
theorem it_of {cs : List AV} (h : Opn shIt cs) : ∃ x : It, cs = [.str x.h, .int .i64 x.n, .str x.k] := by
  obtain ⟨_, _, rfl, ⟨s, rfl, _⟩, _, _, rfl, ⟨n, rfl, _⟩, _, _, rfl, ⟨k, rfl, _⟩, rfl⟩ := h
  exact ⟨⟨s, n, k⟩, rfl⟩
theorem its_of : ∀ {av : List AV}, (∀ a ∈ av, ∃ cs, Opn shIt cs ∧ a = oneA true cs) → ∃ l : List It, av = l.map itV
  | [], _ => ⟨[], rfl⟩
  | a :: av, h => by
    obtain ⟨cs, h1, rfl⟩ := h a (by simp)
    obtain ⟨x, rfl⟩ := it_of h1
    obtain ⟨l, rfl⟩ := its_of (av := av) (fun b hb => h b (by simp [hb]))
    exact ⟨x :: l, rfl⟩
end Go.Proofs.Ythnkhdenkagceaa
