/- The statement SkipRow is proved, for every input, with no further condition. -/
import Derived.Test.YthnkhdenkagceaaSkf
import Derived.Test.YthnkhdenkagceaaSxW
import Derived.Test.YthnkhdenkagceaaRows
import Derived.ProofKit
set_option linter.unusedVariables false
set_option linter.unusedSimpArgs false
namespace Go.Proofs.Ythnkhdenkagceaa
open Go.ChangeShapes Go.WideShapes Go.ChangeAt Go.RowKit
open Sx

theorem Try.own : ownKnob Try.prog.godebug = none := by kernel_rfl
theorem Try.laidOut : laidOutB Try.prog = true := by kernel_rfl
theorem skipRow_avs (avs : List AV) (h : OpnAs Try.prog Try.f5.params.toList [.int .u8, .slI .u8] avs) : FnR Try.prog G 5 avs [] (.bool true) [] := by
  obtain ⟨_, _, rfl, ⟨n, rfl, hn⟩, h1⟩ := OpnAs.cons h
  obtain ⟨_, _, rfl, ⟨m, rfl, hm, hM⟩, hl⟩ := OpnAs.cons h1
  obtain rfl := hl
  simp only [show isAg Try.prog 5 = false from by kernel_rfl, show isAg Try.prog 55 = false from by kernel_rfl]
  have hn := hn.u8
  have h63 : maxLen = 9223372036854775807 := by decide
  exact row_fn n m (by omega) (fun o ho => by have := (hM o ho).u8; omega) (by omega)
set_option maxRecDepth 100000 in
theorem skipRow_lifted (os : Os) (started : os.Started) (H : Type) (enc : TypeId × Value → H) :
    ReturnsInHanded {} Try.checked os 5 .any (Rows.skipRowSpec.pre6 enc Try.prog Try.f5 Rows.skipRowRow.domain false) (Rows.skipRowSpec.post enc Try.prog Try.f5 false true false false) := by
  refine returnsInHanded_of_change (C := Try.checked) Try.own started (by kernel_rfl) Try.func5
    (ChangeSpec.witness6 (enc := enc) (C := Try.checked) false ⟨#[], #[.int .u8 0, .slice none 0 0], []⟩ 12 (by kernel_rfl) (by kernel_rfl) (by kernel_rfl) (by kernel_rfl)) ?_
  intro W base args ds gs before hval hW hcnd _
  have hgs : gs = [] := by
    obtain ⟨p, q, _, hV, _⟩ := hW
    cases gs with
    | nil => rfl
    | cons g gs => exact hV.elim
  subst hgs
  have hds : ds.length = 2 := by
    obtain ⟨p, q, hA, _⟩ := hW
    exact trodAll_len hA
  have hs : (Rows.skipRowSpec.fn H (ds ++ [])).results = [.lit (.bool true)] ∧ (Rows.skipRowSpec.fn H (ds ++ [])).args = ds ∧ (Rows.skipRowSpec.fn H (ds ++ [])).vars = [] := by
    match ds, hds with
    | [d0, d1], _ => exact ⟨rfl, rfl, rfl⟩
  exact lawPost (n := 12) Try.laidOut (by kernel_rfl) (show _ = #[4] from by kernel_rfl) Try.underlying4 rfl hs (fun j t v h1 h2 => Value.okWide_any_base (hval j t v h1 h2)) hW (by kernel_rfl) (fun g x h => by cases h) skipRow_avs

theorem skipRow_holds : Rows.SkipRowSaid :=
  OpenClaim.holds_of_wide 5 Try.f5 rfl rfl rfl rfl rfl rfl rfl ⟨rfl, rfl, rfl, rfl, rfl⟩ rfl rfl rfl rfl rfl (by kernel_rfl) Try.func5 (by kernel_rfl)
    (of_decide_eq_true (by kernel_rfl)) (by unfold Func.isWrapper; first | (rw [if_pos (by decide +kernel)]; kernel_rfl) | (rw [if_neg (by decide +kernel)]; exact ⟨rfl, rfl⟩))
    (fun os started H enc _ => skipRow_lifted os started H enc)

end Go.Proofs.Ythnkhdenkagceaa
#print axioms Go.Proofs.Ythnkhdenkagceaa.skipRow_holds
