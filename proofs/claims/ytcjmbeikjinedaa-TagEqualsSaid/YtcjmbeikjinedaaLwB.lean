/- The statement TagEquals is proved, for every input, with no further condition. -/
import Derived.Test.YtcjmbeikjinedaaTagG
import Derived.Test.YtcjmbeikjinedaaSxZ
import Derived.Test.YtcjmbeikjinedaaRows
import Derived.ProofKit
set_option linter.unusedVariables false
set_option linter.unusedSimpArgs false
namespace Go.Proofs.Ytcjmbeikjinedaa
open Go.ChangeShapes Go.WideShapes Go.ChangeAt Go.RowKit
open Sx

theorem Try.own : ownKnob Try.prog.godebug = none := by kernel_rfl
theorem Try.laidOut : laidOutB Try.prog = true := by kernel_rfl
theorem tagEquals_avs (avs : List AV) (h : OpnAs Try.prog Try.f4.params.toList [.st [.slI .u8, .slI .u8, .int .u16, .int .u8]] avs) : FnR Try.prog G 4 avs [] (.bool true) [] := by
  obtain ⟨s, r, cs, l, hs, rfl, ho, hl⟩ := h
  cases hs
  obtain rfl := hl
  obtain ⟨_, _, rfl, ⟨a, rfl, ha, hA⟩, _, _, rfl, ⟨b, rfl, hb, hB⟩, _, _, rfl, ⟨t, rfl, ht⟩, _, _, rfl, ⟨y, rfl, hy⟩, rfl⟩ := ho
  rw [show isAg Try.prog 30 = true from by kernel_rfl]
  exact tagEquals_fn a b t y ha hb (fun x hx => (hA x hx).u8) (fun x hx => (hB x hx).u8) ht.u16 hy.u8
set_option maxRecDepth 100000 in
theorem tagEquals_lifted (os : Os) (started : os.Started) (H : Type) (enc : TypeId × Value → H) :
    ReturnsInHanded {} Try.checked os 4 .any (Rows.tagEqualsSpec.pre6 enc Try.prog Try.f4 Rows.tagEqualsRow.domain false) (Rows.tagEqualsSpec.post enc Try.prog Try.f4 false true false false) := by
  refine returnsInHanded_of_change (C := Try.checked) Try.own started (by kernel_rfl) Try.func4
    (ChangeSpec.witness6 (enc := enc) (C := Try.checked) false ⟨#[], #[.agg #[.slice none 0 0, .slice none 0 0, .int .u16 0, .int .u8 0]], []⟩ 12 (by kernel_rfl) (by kernel_rfl) (by kernel_rfl) (by kernel_rfl)) ?_
  intro W base args ds gs before hval hW hcnd _
  have hgs : gs = [] := by
    obtain ⟨p, q, _, hV, _⟩ := hW
    cases gs with
    | nil => rfl
    | cons g gs => exact hV.elim
  subst hgs
  have hds : ds.length = 1 := by
    obtain ⟨p, q, hA, _⟩ := hW
    exact trodAll_len hA
  have hs : (Rows.tagEqualsSpec.fn H (ds ++ [])).results = [.lit (.bool true)] ∧ (Rows.tagEqualsSpec.fn H (ds ++ [])).args = ds ∧ (Rows.tagEqualsSpec.fn H (ds ++ [])).vars = [] := by
    match ds, hds with
    | [d0], _ => exact ⟨rfl, rfl, rfl⟩
  exact lawPost (n := 12) Try.laidOut (by kernel_rfl) (show _ = #[4] from by kernel_rfl) Try.underlying4 rfl hs (fun j t v h1 h2 => Value.okWide_any_base (hval j t v h1 h2)) hW (by kernel_rfl) (fun g x h => by cases h) tagEquals_avs

theorem tagEquals_holds : Rows.TagEqualsSaid :=
  OpenClaim.holds_of_wide 4 Try.f4 rfl rfl rfl rfl rfl rfl rfl ⟨rfl, rfl, rfl, rfl, rfl⟩ rfl rfl rfl rfl rfl (by kernel_rfl) Try.func4 (by kernel_rfl)
    (of_decide_eq_true (by kernel_rfl)) (by unfold Func.isWrapper; first | (rw [if_pos (by decide +kernel)]; kernel_rfl) | (rw [if_neg (by decide +kernel)]; exact ⟨rfl, rfl⟩))
    (fun os started H enc _ => tagEquals_lifted os started H enc)

end Go.Proofs.Ytcjmbeikjinedaa
#print axioms Go.Proofs.Ytcjmbeikjinedaa.tagEquals_holds
