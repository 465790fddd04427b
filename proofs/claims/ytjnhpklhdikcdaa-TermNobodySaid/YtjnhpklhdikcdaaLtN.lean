/- The statement TermNobody is proved, for every input, with no further condition. -/
import Derived.Test.YtjnhpklhdikcdaaTna
import Derived.Test.YtjnhpklhdikcdaaSxW
import Derived.Test.YtjnhpklhdikcdaaRows
import Derived.ProofKit
set_option linter.unusedVariables false
set_option linter.unusedSimpArgs false
namespace Go.Proofs.Ytjnhpklhdikcdaa
open Go.ChangeShapes Go.WideShapes Go.ChangeAt Go.RowKit
open Sx

theorem Try.own : ownKnob Try.prog.godebug = none := by kernel_rfl
theorem Try.laidOut : laidOutB Try.prog = true := by kernel_rfl
theorem termNobody_avs (avs : List AV) (h : OpnAs Try.prog Try.f7.params.toList [.str, .int .u64] avs) : FnR Try.prog G 7 avs [] (.bool true) [] := by
  obtain ⟨_, _, rfl, ⟨s, rfl, _⟩, h1⟩ := OpnAs.cons h
  obtain ⟨_, _, rfl, ⟨n, rfl, hn⟩, hl⟩ := OpnAs.cons h1
  obtain rfl := hl
  simp only [show isAg Try.prog 9 = false from by kernel_rfl, show isAg Try.prog 28 = false from by kernel_rfl]
  by_cases hs : s.size ≤ 1000
  · exact nobody_fn s n hn.u64 hs
  · exact nobody_big s n hs
set_option maxRecDepth 100000 in
theorem termNobody_lifted (os : Os) (started : os.Started) (H : Type) (enc : TypeId × Value → H) :
    ReturnsInHanded {} Try.checked os 7 .any (Rows.termNobodySpec.pre6 enc Try.prog Try.f7 Rows.termNobodyRow.domain false) (Rows.termNobodySpec.post enc Try.prog Try.f7 false true false false) := by
  refine returnsInHanded_of_change (C := Try.checked) Try.own started (by kernel_rfl) Try.func7
    (ChangeSpec.witness6 (enc := enc) (C := Try.checked) false ⟨#[], #[.string .empty, .int .u64 0], []⟩ 12 (by kernel_rfl) (by kernel_rfl) (by kernel_rfl) (by kernel_rfl)) ?_
  intro W base args ds gs before hval hW hcnd _
  have hgs : gs = [] := by
    obtain ⟨p, q, _, hV, _⟩ := hW
    cases gs with
    | nil => rfl
    | cons g gs => exact hV.elim
  subst hgs
  have hds : ds.length = 2 := by
    obtain ⟨p, q, hA, _⟩ := hW
    exact trodAll_len hA
  have hs : (Rows.termNobodySpec.fn H (ds ++ [])).results = [.lit (.bool true)] ∧ (Rows.termNobodySpec.fn H (ds ++ [])).args = ds ∧ (Rows.termNobodySpec.fn H (ds ++ [])).vars = [] := by
    match ds, hds with
    | [d0, d1], _ => exact ⟨rfl, rfl, rfl⟩
  exact lawPost (n := 12) Try.laidOut (by kernel_rfl) (show _ = #[4] from by kernel_rfl) Try.underlying4 rfl hs (fun j t v h1 h2 => Value.okWide_any_base (hval j t v h1 h2)) hW (by kernel_rfl) (fun g x h => by cases h) termNobody_avs

theorem termNobody_holds : Rows.TermNobodySaid :=
  OpenClaim.holds_of_wide 7 Try.f7 rfl rfl rfl rfl rfl rfl rfl ⟨rfl, rfl, rfl, rfl, rfl⟩ rfl rfl rfl rfl rfl (by kernel_rfl) Try.func7 (by kernel_rfl)
    (of_decide_eq_true (by kernel_rfl)) (by unfold Func.isWrapper; first | (rw [if_pos (by decide +kernel)]; kernel_rfl) | (rw [if_neg (by decide +kernel)]; exact ⟨rfl, rfl⟩))
    (fun os started H enc _ => termNobody_lifted os started H enc)

end Go.Proofs.Ytjnhpklhdikcdaa
#print axioms Go.Proofs.Ytjnhpklhdikcdaa.termNobody_holds
