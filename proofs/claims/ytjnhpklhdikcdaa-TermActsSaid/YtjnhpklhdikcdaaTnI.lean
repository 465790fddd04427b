/- Acts: what the statements' arguments are. -/
import Derived.Test.YtjnhpklhdikcdaaTnB
import Derived.Test.YtjnhpklhdikcdaaTnE
import Derived.Test.YtjnhpklhdikcdaaSxW
set_option linter.unusedVariables false
set_option linter.unusedSimpArgs false
namespace Go.Proofs.Ytjnhpklhdikcdaa
open Sx
def shAc : Sh := .st [.int .u8, .int .u8, .int .u8, .int .u64, .str, .bool]
theorem ac_of {cs : List AV} (h : Opn shAc cs) : ∃ a : Ac, cs = [.int .u8 a.k, .int .u8 a.a, .int .u8 a.b, .int .u64 a.n, .str a.s, .bool a.raw] ∧ okA a := by
  obtain ⟨_, _, rfl, ⟨k, rfl, hk⟩, _, _, rfl, ⟨a, rfl, ha⟩, _, _, rfl, ⟨b, rfl, hb⟩, _, _, rfl, ⟨n, rfl, hn⟩, _, _, rfl, ⟨s, rfl, _⟩, _, _, rfl, ⟨r, rfl⟩, rfl⟩ := h
  exact ⟨⟨k, a, b, n, s, r⟩, rfl, hk.u8, ha.u8, hb.u8, hn.u64⟩
theorem acs_of : ∀ {av : List AV}, (∀ a ∈ av, ∃ cs, Opn shAc cs ∧ a = oneA true cs) → ∃ l : List Ac, av = l.map acV ∧ ∀ a ∈ l, okA a
  | [], _ => ⟨[], rfl, fun a h => by cases h⟩
  | a :: av, h => by
    obtain ⟨cs, h1, rfl⟩ := h a (by simp)
    obtain ⟨x, rfl, hx⟩ := ac_of h1
    obtain ⟨l, rfl, hl⟩ := acs_of (av := av) (fun b hb => h b (by simp [hb]))
    refine ⟨x :: l, rfl, fun b hb => ?_⟩
    rcases List.mem_cons.1 hb with rfl | hb
    · exact hx
    · exact hl b hb
end Go.Proofs.Ytjnhpklhdikcdaa
