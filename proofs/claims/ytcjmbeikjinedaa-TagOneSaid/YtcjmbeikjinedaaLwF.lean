/- The statement TagOne is proved, for every input, with no further condition. -/
import Derived.Test.YtcjmbeikjinedaaTagS
import Derived.Test.YtcjmbeikjinedaaSxZ
import Derived.Test.YtcjmbeikjinedaaRows
import Derived.ProofKit
set_option linter.unusedVariables false
set_option linter.unusedSimpArgs false
namespace Go.Proofs.Ytcjmbeikjinedaa
open Go.ChangeShapes Go.WideShapes Go.ChangeAt Go.RowKit
open Sx

theorem Try.own : ownKnob Try.prog.godebug = none := by kernel_rfl
theorem Try.laidOut : laidOutB Try.prog = true := by kernel_rfl
theorem tagOne_avs (avs : List AV) (h : OpnAs Try.prog Try.f8.params.toList [.slI .u8] avs) : FnR Try.prog G 8 avs [] (.bool true) [] := by
  obtain ⟨_, _, rfl, ⟨m, rfl, hm, hM⟩, hl⟩ := OpnAs.cons h
  obtain rfl := hl
  first | (simp only [show isAg Try.prog 22 = true from by kernel_rfl, show isAg Try.prog 23 = false from by kernel_rfl, show isAg Try.prog 25 = true from by kernel_rfl, show isAg Try.prog 33 = true from by kernel_rfl]) | skip
  exact tagOne_fn m (fun k hk h15 => by rw [hk]; exact tagOne_plain (fun x hx => (hM x hx).u8) h15)
set_option maxRecDepth 100000 in
theorem tagOne_lifted (os : Os) (started : os.Started) (H : Type) (enc : TypeId × Value → H) :
    ReturnsInHanded {} Try.checked os 8 .any (Rows.tagOneSpec.pre6 enc Try.prog Try.f8 Rows.tagOneRow.domain false) (Rows.tagOneSpec.post enc Try.prog Try.f8 false true false false) := by
  refine returnsInHanded_of_change (C := Try.checked) Try.own started (by kernel_rfl) Try.func8
    (ChangeSpec.witness6 (enc := enc) (C := Try.checked) false ⟨#[], #[.slice none 0 0], []⟩ 12 (by kernel_rfl) (by kernel_rfl) (by kernel_rfl) (by kernel_rfl)) ?_
  intro W base args ds gs before hval hW hcnd _
  have hgs : gs = [] := by
    obtain ⟨p, q, _, hV, _⟩ := hW
    cases gs with
    | nil => rfl
    | cons g gs => exact hV.elim
  subst hgs
  have hds : ds.length = 1 := by
    obtain ⟨p, q, hA, _⟩ := hW
    exact trodAll_len hA
  have hs : (Rows.tagOneSpec.fn H (ds ++ [])).results = [.lit (.bool true)] ∧ (Rows.tagOneSpec.fn H (ds ++ [])).args = ds ∧ (Rows.tagOneSpec.fn H (ds ++ [])).vars = [] := by
    match ds, hds with
    | [d0], _ => exact ⟨rfl, rfl, rfl⟩
  exact lawPost (n := 12) Try.laidOut (by kernel_rfl) (show _ = #[4] from by kernel_rfl) Try.underlying4 rfl hs (fun j t v h1 h2 => Value.okWide_any_base (hval j t v h1 h2)) hW (by kernel_rfl) (fun g x h => by cases h) tagOne_avs

theorem tagOne_holds : Rows.TagOneSaid :=
  OpenClaim.holds_of_wide 8 Try.f8 rfl rfl rfl rfl rfl rfl rfl ⟨rfl, rfl, rfl, rfl, rfl⟩ rfl rfl rfl rfl rfl (by kernel_rfl) Try.func8 (by kernel_rfl)
    (of_decide_eq_true (by kernel_rfl)) (by unfold Func.isWrapper; first | (rw [if_pos (by decide +kernel)]; kernel_rfl) | (rw [if_neg (by decide +kernel)]; exact ⟨rfl, rfl⟩))
    (fun os started H enc _ => tagOne_lifted os started H enc)

end Go.Proofs.Ytcjmbeikjinedaa
#print axioms Go.Proofs.Ytcjmbeikjinedaa.tagOne_holds
