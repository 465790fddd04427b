/- The statement TagTells is proved, for every input, with no further condition. -/
import Derived.Test.YtcjmbeikjinedaaTagX
import Derived.Test.YtcjmbeikjinedaaSxZ
import Derived.Test.YtcjmbeikjinedaaRows
import Derived.ProofKit
set_option linter.unusedVariables false
set_option linter.unusedSimpArgs false
namespace Go.Proofs.Ytcjmbeikjinedaa
open Go.ChangeShapes Go.WideShapes Go.ChangeAt Go.RowKit
open Sx

theorem Try.own : ownKnob Try.prog.godebug = none := by kernel_rfl
theorem Try.laidOut : laidOutB Try.prog = true := by kernel_rfl
theorem tagTells_avs (avs : List AV) (h : OpnAs Try.prog Try.f3.params.toList [.arrI .u8 32, .slI .u8] avs) : FnR Try.prog G 3 avs [] (.bool true) [] := by
  obtain ⟨_, _, rfl, ⟨key, rfl, hkl, hk⟩, h1⟩ := OpnAs.cons h
  obtain ⟨_, _, rfl, ⟨m, rfl, hm, hM⟩, hl⟩ := OpnAs.cons h1
  obtain rfl := hl
  first | (simp only [show isAg Try.prog 22 = true from by kernel_rfl, show isAg Try.prog 23 = false from by kernel_rfl, show isAg Try.prog 25 = true from by kernel_rfl, show isAg Try.prog 33 = true from by kernel_rfl]) | skip
  exact tagTells_fn key m hkl (fun x hx => (hk x hx).u8) (fun x hx => (hM x hx).u8)
set_option maxRecDepth 100000 in
theorem tagTells_lifted (os : Os) (started : os.Started) (H : Type) (enc : TypeId × Value → H) :
    ReturnsInHanded {} Try.checked os 3 .any (Rows.tagTellsSpec.pre6 enc Try.prog Try.f3 Rows.tagTellsRow.domain false) (Rows.tagTellsSpec.post enc Try.prog Try.f3 false true false false) := by
  refine returnsInHanded_of_change (C := Try.checked) Try.own started (by kernel_rfl) Try.func3
    (ChangeSpec.witness6 (enc := enc) (C := Try.checked) false ⟨#[], #[.agg #[.int .u8 0, .int .u8 0, .int .u8 0, .int .u8 0, .int .u8 0, .int .u8 0, .int .u8 0, .int .u8 0, .int .u8 0, .int .u8 0, .int .u8 0, .int .u8 0, .int .u8 0, .int .u8 0, .int .u8 0, .int .u8 0, .int .u8 0, .int .u8 0, .int .u8 0, .int .u8 0, .int .u8 0, .int .u8 0, .int .u8 0, .int .u8 0, .int .u8 0, .int .u8 0, .int .u8 0, .int .u8 0, .int .u8 0, .int .u8 0, .int .u8 0, .int .u8 0], .slice none 0 0], []⟩ 12 (by kernel_rfl) (by kernel_rfl) (by kernel_rfl) (by kernel_rfl)) ?_
  intro W base args ds gs before hval hW hcnd _
  have hgs : gs = [] := by
    obtain ⟨p, q, _, hV, _⟩ := hW
    cases gs with
    | nil => rfl
    | cons g gs => exact hV.elim
  subst hgs
  have hds : ds.length = 2 := by
    obtain ⟨p, q, hA, _⟩ := hW
    exact trodAll_len hA
  have hs : (Rows.tagTellsSpec.fn H (ds ++ [])).results = [.lit (.bool true)] ∧ (Rows.tagTellsSpec.fn H (ds ++ [])).args = ds ∧ (Rows.tagTellsSpec.fn H (ds ++ [])).vars = [] := by
    match ds, hds with
    | [d0, d1], _ => exact ⟨rfl, rfl, rfl⟩
  exact lawPost (n := 12) Try.laidOut (by kernel_rfl) (show _ = #[4] from by kernel_rfl) Try.underlying4 rfl hs (fun j t v h1 h2 => Value.okWide_any_base (hval j t v h1 h2)) hW (by kernel_rfl) (fun g x h => by cases h) tagTells_avs

theorem tagTells_holds : Rows.TagTellsSaid :=
  OpenClaim.holds_of_wide 3 Try.f3 rfl rfl rfl rfl rfl rfl rfl ⟨rfl, rfl, rfl, rfl, rfl⟩ rfl rfl rfl rfl rfl (by kernel_rfl) Try.func3 (by kernel_rfl)
    (of_decide_eq_true (by kernel_rfl)) (by unfold Func.isWrapper; first | (rw [if_pos (by decide +kernel)]; kernel_rfl) | (rw [if_neg (by decide +kernel)]; exact ⟨rfl, rfl⟩))
    (fun os started H enc _ => tagTells_lifted os started H enc)

end Go.Proofs.Ytcjmbeikjinedaa
#print axioms Go.Proofs.Ytcjmbeikjinedaa.tagTells_holds
