/- The statement SkipCalls is proved, for every input, with no further condition. -/
import Derived.Test.YthnkhdenkagceaaSka
import Derived.Test.YthnkhdenkagceaaSkW
import Derived.Test.YthnkhdenkagceaaSxW
import Derived.Test.YthnkhdenkagceaaRows
import Derived.ProofKit
set_option linter.unusedVariables false
set_option linter.unusedSimpArgs false
namespace Go.Proofs.Ythnkhdenkagceaa
open Go.ChangeShapes Go.WideShapes Go.ChangeAt Go.RowKit
open Sx

theorem Try.own : ownKnob Try.prog.godebug = none := by kernel_rfl
theorem Try.laidOut : laidOutB Try.prog = true := by kernel_rfl
theorem skipCalls_avs (avs : List AV) (h : OpnAs Try.prog Try.f3.params.toList [.sl 3 true shIt, shIt] avs) : FnR Try.prog G 3 avs [] (.bool true) [] := by
  obtain ⟨_, _, rfl, ⟨av, rfl, _, hA⟩, h1⟩ := OpnAs.cons h
  obtain ⟨cs, _, rfl, hc, hl⟩ := OpnAs.cons h1
  obtain rfl := hl
  obtain ⟨x, rfl⟩ := it_of hc
  obtain ⟨l, rfl⟩ := its_of hA
  simp only [show isAg Try.prog 22 = false from by kernel_rfl, show isAg Try.prog 24 = true from by kernel_rfl]
  exact calls_fn l x
set_option maxRecDepth 100000 in
theorem skipCalls_lifted (os : Os) (started : os.Started) (H : Type) (enc : TypeId × Value → H) :
    ReturnsInHanded {} Try.checked os 3 .any (Rows.skipCallsSpec.pre6 enc Try.prog Try.f3 Rows.skipCallsRow.domain false) (Rows.skipCallsSpec.post enc Try.prog Try.f3 false true false false) := by
  refine returnsInHanded_of_change (C := Try.checked) Try.own started (by kernel_rfl) Try.func3
    (ChangeSpec.witness6 (enc := enc) (C := Try.checked) false ⟨#[], #[.slice none 0 0, .agg #[.string .empty, .int .i64 0, .string .empty]], []⟩ 12 (by kernel_rfl) (by kernel_rfl) (by kernel_rfl) (by kernel_rfl)) ?_
  intro W base args ds gs before hval hW hcnd _
  have hgs : gs = [] := by
    obtain ⟨p, q, _, hV, _⟩ := hW
    cases gs with
    | nil => rfl
    | cons g gs => exact hV.elim
  subst hgs
  have hds : ds.length = 2 := by
    obtain ⟨p, q, hA, _⟩ := hW
    exact trodAll_len hA
  have hs : (Rows.skipCallsSpec.fn H (ds ++ [])).results = [.lit (.bool true)] ∧ (Rows.skipCallsSpec.fn H (ds ++ [])).args = ds ∧ (Rows.skipCallsSpec.fn H (ds ++ [])).vars = [] := by
    match ds, hds with
    | [d0, d1], _ => exact ⟨rfl, rfl, rfl⟩
  exact lawPost (n := 12) Try.laidOut (by kernel_rfl) (show _ = #[4] from by kernel_rfl) Try.underlying4 rfl hs (fun j t v h1 h2 => Value.okWide_any_base (hval j t v h1 h2)) hW (by kernel_rfl) (fun g x h => by cases h) skipCalls_avs

theorem skipCalls_holds : Rows.SkipCallsSaid :=
  OpenClaim.holds_of_wide 3 Try.f3 rfl rfl rfl rfl rfl rfl rfl ⟨rfl, rfl, rfl, rfl, rfl⟩ rfl rfl rfl rfl rfl (by kernel_rfl) Try.func3 (by kernel_rfl)
    (of_decide_eq_true (by kernel_rfl)) (by unfold Func.isWrapper; first | (rw [if_pos (by decide +kernel)]; kernel_rfl) | (rw [if_neg (by decide +kernel)]; exact ⟨rfl, rfl⟩))
    (fun os started H enc _ => skipCalls_lifted os started H enc)

end Go.Proofs.Ythnkhdenkagceaa
#print axioms Go.Proofs.Ythnkhdenkagceaa.skipCalls_holds
