/- Skipped keys: what SkipActs' argument is. -/
import Derived.Test.YthnkhdenkagceaaSkW
import Derived.Test.YthnkhdenkagceaaSkb
set_option linter.unusedVariables false
set_option linter.unusedSimpArgs false
namespace Go.Proofs.Ythnkhdenkagceaa
open Sx
def shAc : Sh := .st [.int .u8, shIt]
theorem ac_of {cs : List AV} (h : Opn shAc cs) : ∃ a : Ac, cs = [.int .u8 a.kd, .str a.x.h, .int .i64 a.x.n, .str a.x.k] ∧ 0 ≤ a.kd ∧ a.kd ≤ 255 := by
  obtain ⟨_, _, rfl, ⟨n, rfl, hn⟩, _, _, rfl, hit, rfl⟩ := h
  obtain ⟨x, rfl⟩ := it_of hit
  have := hn.u8
  exact ⟨⟨n, x⟩, rfl, by show 0 ≤ n; omega, by show n ≤ 255; omega⟩
theorem acs_of : ∀ {av : List AV}, (∀ a ∈ av, ∃ cs, Opn shAc cs ∧ a = oneA true cs) → ∃ l : List Ac, av = l.map acV ∧ ∀ a ∈ l, 0 ≤ a.kd ∧ a.kd ≤ 255
  | [], _ => ⟨[], rfl, fun a h => by cases h⟩
  | a :: av, h => by
    obtain ⟨cs, h1, rfl⟩ := h a (by simp)
    obtain ⟨x, rfl, hx⟩ := ac_of h1
    obtain ⟨l, rfl, hl⟩ := acs_of (av := av) (fun b hb => h b (by simp [hb]))
    refine ⟨x :: l, rfl, fun b hb => ?_⟩
    rcases List.mem_cons.1 hb with rfl | hb
    · exact hx
    · exact hl b hb
end Go.Proofs.Ythnkhdenkagceaa
