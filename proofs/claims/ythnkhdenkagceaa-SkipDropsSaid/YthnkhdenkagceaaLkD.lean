/- The statement SkipDrops is proved, for every input, with no further condition. -/
import Derived.Test.YthnkhdenkagceaaSkU
import Derived.Test.YthnkhdenkagceaaSkW
import Derived.Test.YthnkhdenkagceaaSxW
import Derived.Test.YthnkhdenkagceaaRows
import Derived.ProofKit
set_option linter.unusedVariables false
set_option linter.unusedSimpArgs false
namespace Go.Proofs.Ythnkhdenkagceaa
open Go.ChangeShapes Go.WideShapes Go.ChangeAt Go.RowKit
open Sx

theorem Try.own : ownKnob Try.prog.godebug = none := by kernel_rfl
theorem Try.laidOut : laidOutB Try.prog = true := by kernel_rfl
theorem skipDrops_avs (avs : List AV) (h : OpnAs Try.prog Try.f6.params.toList [.sl 3 true shIt, .str] avs) : FnR Try.prog G 6 avs [] (.bool true) [] := by
  obtain ⟨_, _, rfl, ⟨av, rfl, _, hA⟩, h1⟩ := OpnAs.cons h
  obtain ⟨_, _, rfl, ⟨v, rfl, _⟩, hl⟩ := OpnAs.cons h1
  obtain rfl := hl
  obtain ⟨l, rfl⟩ := its_of hA
  simp only [show isAg Try.prog 22 = false from by kernel_rfl, show isAg Try.prog 9 = false from by kernel_rfl]
  exact drops_fn l v
set_option maxRecDepth 100000 in
theorem skipDrops_lifted (os : Os) (started : os.Started) (H : Type) (enc : TypeId × Value → H) :
    ReturnsInHanded {} Try.checked os 6 .any (Rows.skipDropsSpec.pre6 enc Try.prog Try.f6 Rows.skipDropsRow.domain false) (Rows.skipDropsSpec.post enc Try.prog Try.f6 false true false false) := by
  refine returnsInHanded_of_change (C := Try.checked) Try.own started (by kernel_rfl) Try.func6
    (ChangeSpec.witness6 (enc := enc) (C := Try.checked) false ⟨#[], #[.slice none 0 0, .string .empty], []⟩ 12 (by kernel_rfl) (by kernel_rfl) (by kernel_rfl) (by kernel_rfl)) ?_
  intro W base args ds gs before hval hW hcnd _
  have hgs : gs = [] := by
    obtain ⟨p, q, _, hV, _⟩ := hW
    cases gs with
    | nil => rfl
    | cons g gs => exact hV.elim
  subst hgs
  have hds : ds.length = 2 := by
    obtain ⟨p, q, hA, _⟩ := hW
    exact trodAll_len hA
  have hs : (Rows.skipDropsSpec.fn H (ds ++ [])).results = [.lit (.bool true)] ∧ (Rows.skipDropsSpec.fn H (ds ++ [])).args = ds ∧ (Rows.skipDropsSpec.fn H (ds ++ [])).vars = [] := by
    match ds, hds with
    | [d0, d1], _ => exact ⟨rfl, rfl, rfl⟩
  exact lawPost (n := 12) Try.laidOut (by kernel_rfl) (show _ = #[4] from by kernel_rfl) Try.underlying4 rfl hs (fun j t v h1 h2 => Value.okWide_any_base (hval j t v h1 h2)) hW (by kernel_rfl) (fun g x h => by cases h) skipDrops_avs

theorem skipDrops_holds : Rows.SkipDropsSaid :=
  OpenClaim.holds_of_wide 6 Try.f6 rfl rfl rfl rfl rfl rfl rfl ⟨rfl, rfl, rfl, rfl, rfl⟩ rfl rfl rfl rfl rfl (by kernel_rfl) Try.func6 (by kernel_rfl)
    (of_decide_eq_true (by kernel_rfl)) (by unfold Func.isWrapper; first | (rw [if_pos (by decide +kernel)]; kernel_rfl) | (rw [if_neg (by decide +kernel)]; exact ⟨rfl, rfl⟩))
    (fun os started H enc _ => skipDrops_lifted os started H enc)

end Go.Proofs.Ythnkhdenkagceaa
#print axioms Go.Proofs.Ythnkhdenkagceaa.skipDrops_holds
