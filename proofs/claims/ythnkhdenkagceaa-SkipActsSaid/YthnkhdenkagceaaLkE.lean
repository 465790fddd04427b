/- The statement SkipActs is proved, for every input, with no further condition. -/
import Derived.Test.YthnkhdenkagceaaSkc
import Derived.Test.YthnkhdenkagceaaSkd
import Derived.Test.YthnkhdenkagceaaSxW
import Derived.Test.YthnkhdenkagceaaRows
import Derived.ProofKit
set_option linter.unusedVariables false
set_option linter.unusedSimpArgs false
namespace Go.Proofs.Ythnkhdenkagceaa
open Go.ChangeShapes Go.WideShapes Go.ChangeAt Go.RowKit
open Sx

theorem Try.own : ownKnob Try.prog.godebug = none := by kernel_rfl
theorem Try.laidOut : laidOutB Try.prog = true := by kernel_rfl
theorem skipActs_avs (avs : List AV) (h : OpnAs Try.prog Try.f4.params.toList [.sl 4 true shAc] avs) : FnR Try.prog G 4 avs [] (.bool true) [] := by
  obtain ⟨_, _, rfl, ⟨av, rfl, _, hA⟩, hl⟩ := OpnAs.cons h
  obtain rfl := hl
  obtain ⟨l, rfl, hk⟩ := acs_of hA
  simp only [show isAg Try.prog 51 = false from by kernel_rfl]
  exact acts_fn l hk
set_option maxRecDepth 100000 in
theorem skipActs_lifted (os : Os) (started : os.Started) (H : Type) (enc : TypeId × Value → H) :
    ReturnsInHanded {} Try.checked os 4 .any (Rows.skipActsSpec.pre6 enc Try.prog Try.f4 Rows.skipActsRow.domain false) (Rows.skipActsSpec.post enc Try.prog Try.f4 false true false false) := by
  refine returnsInHanded_of_change (C := Try.checked) Try.own started (by kernel_rfl) Try.func4
    (ChangeSpec.witness6 (enc := enc) (C := Try.checked) false ⟨#[], #[.slice none 0 0], []⟩ 12 (by kernel_rfl) (by kernel_rfl) (by kernel_rfl) (by kernel_rfl)) ?_
  intro W base args ds gs before hval hW hcnd _
  have hgs : gs = [] := by
    obtain ⟨p, q, _, hV, _⟩ := hW
    cases gs with
    | nil => rfl
    | cons g gs => exact hV.elim
  subst hgs
  have hds : ds.length = 1 := by
    obtain ⟨p, q, hA, _⟩ := hW
    exact trodAll_len hA
  have hs : (Rows.skipActsSpec.fn H (ds ++ [])).results = [.lit (.bool true)] ∧ (Rows.skipActsSpec.fn H (ds ++ [])).args = ds ∧ (Rows.skipActsSpec.fn H (ds ++ [])).vars = [] := by
    match ds, hds with
    | [d0], _ => exact ⟨rfl, rfl, rfl⟩
  exact lawPost (n := 12) Try.laidOut (by kernel_rfl) (show _ = #[4] from by kernel_rfl) Try.underlying4 rfl hs (fun j t v h1 h2 => Value.okWide_any_base (hval j t v h1 h2)) hW (by kernel_rfl) (fun g x h => by cases h) skipActs_avs

theorem skipActs_holds : Rows.SkipActsSaid :=
  OpenClaim.holds_of_wide 4 Try.f4 rfl rfl rfl rfl rfl rfl rfl ⟨rfl, rfl, rfl, rfl, rfl⟩ rfl rfl rfl rfl rfl (by kernel_rfl) Try.func4 (by kernel_rfl)
    (of_decide_eq_true (by kernel_rfl)) (by unfold Func.isWrapper; first | (rw [if_pos (by decide +kernel)]; kernel_rfl) | (rw [if_neg (by decide +kernel)]; exact ⟨rfl, rfl⟩))
    (fun os started H enc _ => skipActs_lifted os started H enc)

end Go.Proofs.Ythnkhdenkagceaa
#print axioms Go.Proofs.Ythnkhdenkagceaa.skipActs_holds
