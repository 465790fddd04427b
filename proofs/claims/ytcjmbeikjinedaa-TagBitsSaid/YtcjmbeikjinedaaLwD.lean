/- The statement TagBits is proved, for every input, with no further condition. -/
import Derived.Test.YtcjmbeikjinedaaTagS
import Derived.Test.YtcjmbeikjinedaaSxZ
import Derived.Test.YtcjmbeikjinedaaRows
import Derived.ProofKit
set_option linter.unusedVariables false
set_option linter.unusedSimpArgs false
namespace Go.Proofs.Ytcjmbeikjinedaa
open Go.ChangeShapes Go.WideShapes Go.ChangeAt Go.RowKit
open Sx

theorem Try.own : ownKnob Try.prog.godebug = none := by kernel_rfl
theorem Try.laidOut : laidOutB Try.prog = true := by kernel_rfl
theorem tagBits_avs (avs : List AV) (h : OpnAs Try.prog Try.f6.params.toList [.arrI .u8 32, .arrI .u8 32, .slI .u8] avs) : FnR Try.prog G 6 avs [] (.bool true) [] := by
  obtain ⟨_, _, rfl, ⟨key, rfl, hkl, hk⟩, h1⟩ := OpnAs.cons h
  obtain ⟨_, _, rfl, ⟨noise, rfl, hnl, hn⟩, h2⟩ := OpnAs.cons h1
  obtain ⟨_, _, rfl, ⟨m, rfl, hm, hM⟩, hl⟩ := OpnAs.cons h2
  obtain rfl := hl
  first | (simp only [show isAg Try.prog 22 = true from by kernel_rfl, show isAg Try.prog 23 = false from by kernel_rfl, show isAg Try.prog 25 = true from by kernel_rfl, show isAg Try.prog 33 = true from by kernel_rfl]) | skip
  exact tagBits_fn key noise m hkl hnl (fun _ => tagBits_plain hkl (fun x hx => (hk x hx).u8) (fun x hx => (hn x hx).u8) (fun x hx => (hM x hx).u8)) (fun _ => (outN_ok _ 16).2)
set_option maxRecDepth 100000 in
theorem tagBits_lifted (os : Os) (started : os.Started) (H : Type) (enc : TypeId × Value → H) :
    ReturnsInHanded {} Try.checked os 6 .any (Rows.tagBitsSpec.pre6 enc Try.prog Try.f6 Rows.tagBitsRow.domain false) (Rows.tagBitsSpec.post enc Try.prog Try.f6 false true false false) := by
  refine returnsInHanded_of_change (C := Try.checked) Try.own started (by kernel_rfl) Try.func6
    (ChangeSpec.witness6 (enc := enc) (C := Try.checked) false ⟨#[], #[.agg #[.int .u8 0, .int .u8 0, .int .u8 0, .int .u8 0, .int .u8 0, .int .u8 0, .int .u8 0, .int .u8 0, .int .u8 0, .int .u8 0, .int .u8 0, .int .u8 0, .int .u8 0, .int .u8 0, .int .u8 0, .int .u8 0, .int .u8 0, .int .u8 0, .int .u8 0, .int .u8 0, .int .u8 0, .int .u8 0, .int .u8 0, .int .u8 0, .int .u8 0, .int .u8 0, .int .u8 0, .int .u8 0, .int .u8 0, .int .u8 0, .int .u8 0, .int .u8 0], .agg #[.int .u8 0, .int .u8 0, .int .u8 0, .int .u8 0, .int .u8 0, .int .u8 0, .int .u8 0, .int .u8 0, .int .u8 0, .int .u8 0, .int .u8 0, .int .u8 0, .int .u8 0, .int .u8 0, .int .u8 0, .int .u8 0, .int .u8 0, .int .u8 0, .int .u8 0, .int .u8 0, .int .u8 0, .int .u8 0, .int .u8 0, .int .u8 0, .int .u8 0, .int .u8 0, .int .u8 0, .int .u8 0, .int .u8 0, .int .u8 0, .int .u8 0, .int .u8 0], .slice none 0 0], []⟩ 12 (by kernel_rfl) (by kernel_rfl) (by kernel_rfl) (by kernel_rfl)) ?_
  intro W base args ds gs before hval hW hcnd _
  have hgs : gs = [] := by
    obtain ⟨p, q, _, hV, _⟩ := hW
    cases gs with
    | nil => rfl
    | cons g gs => exact hV.elim
  subst hgs
  have hds : ds.length = 3 := by
    obtain ⟨p, q, hA, _⟩ := hW
    exact trodAll_len hA
  have hs : (Rows.tagBitsSpec.fn H (ds ++ [])).results = [.lit (.bool true)] ∧ (Rows.tagBitsSpec.fn H (ds ++ [])).args = ds ∧ (Rows.tagBitsSpec.fn H (ds ++ [])).vars = [] := by
    match ds, hds with
    | [d0, d1, d2], _ => exact ⟨rfl, rfl, rfl⟩
  exact lawPost (n := 12) Try.laidOut (by kernel_rfl) (show _ = #[4] from by kernel_rfl) Try.underlying4 rfl hs (fun j t v h1 h2 => Value.okWide_any_base (hval j t v h1 h2)) hW (by kernel_rfl) (fun g x h => by cases h) tagBits_avs

theorem tagBits_holds : Rows.TagBitsSaid :=
  OpenClaim.holds_of_wide 6 Try.f6 rfl rfl rfl rfl rfl rfl rfl ⟨rfl, rfl, rfl, rfl, rfl⟩ rfl rfl rfl rfl rfl (by kernel_rfl) Try.func6 (by kernel_rfl)
    (of_decide_eq_true (by kernel_rfl)) (by unfold Func.isWrapper; first | (rw [if_pos (by decide +kernel)]; kernel_rfl) | (rw [if_neg (by decide +kernel)]; exact ⟨rfl, rfl⟩))
    (fun os started H enc _ => tagBits_lifted os started H enc)

end Go.Proofs.Ytcjmbeikjinedaa
#print axioms Go.Proofs.Ytcjmbeikjinedaa.tagBits_holds
