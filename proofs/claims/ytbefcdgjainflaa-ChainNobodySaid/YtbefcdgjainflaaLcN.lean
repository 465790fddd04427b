/- The statement ChainNobody is proved, for every input, with no further condition. -/
import Derived.Test.YtbefcdgjainflaaHdJ
import Derived.Test.YtbefcdgjainflaaSxW
import Derived.Test.YtbefcdgjainflaaHdK
import Derived.Test.YtbefcdgjainflaaRows
import Derived.ProofKit
set_option linter.unusedVariables false
set_option linter.unusedSectionVars false
set_option linter.unusedSimpArgs false
namespace Go.Proofs.Ytbefcdgjainflaa
open Go.ChangeShapes Go.WideShapes Go.ChangeAt Go.RowKit
open Sx

theorem Try.own : ownKnob Try.prog.godebug = none := by kernel_rfl
theorem Try.laidOut : laidOutB Try.prog = true := by kernel_rfl
theorem chainNobody_avs [Inhabited Tabs] (avs : List AV) (h : OpnAs Try.prog Try.f7.params.toList [.st [.str, .int .i64], .int .i64] avs) : FnR Try.prog G 7 avs [] (.bool true) [] := by
  obtain ⟨cs, _, rfl, hc, h1⟩ := OpnAs.cons h
  obtain ⟨_, _, rfl, ⟨t, rfl, _⟩, hl⟩ := OpnAs.cons h1
  obtain rfl := hl
  obtain ⟨_, _, rfl, ⟨k, rfl, _⟩, _, _, rfl, ⟨n, rfl, _⟩, rfl⟩ := hc
  simp only [show isAg Try.prog 23 = true from by kernel_rfl, show isAg Try.prog 3 = false from by kernel_rfl]
  exact nobody_fn k n t
set_option maxRecDepth 100000 in
theorem chainNobody_lifted (os : Os) (started : os.Started) (H : Type) (enc : TypeId × Value → H) :
    ReturnsInHanded {} Try.checked os 7 .any (Rows.chainNobodySpec.pre6 enc Try.prog Try.f7 Rows.chainNobodyRow.domain false) (Rows.chainNobodySpec.post enc Try.prog Try.f7 false true false false) := by
  refine returnsInHanded_of_change_shaped (C := Try.checked) Try.own started (by kernel_rfl) Try.func7
    (ChangeSpec.witness6 (enc := enc) (C := Try.checked) false ⟨#[], #[.agg #[.string .empty, .int .i64 0], .int .i64 0], []⟩ 12 (by kernel_rfl) (by kernel_rfl) (by kernel_rfl) (by kernel_rfl)) ?_
  intro W base args ds gs before hval hW hcnd _ hsh _
  obtain ⟨T, hG⟩ := tabs_of hsh
  letI : Inhabited Tabs := ⟨T⟩
  have hgs : gs = [] := by
    obtain ⟨p, q, _, hV, _⟩ := hW
    cases gs with
    | nil => rfl
    | cons g gs => exact hV.elim
  subst hgs
  have hds : ds.length = 2 := by
    obtain ⟨p, q, hA, _⟩ := hW
    exact trodAll_len hA
  have hs : (Rows.chainNobodySpec.fn H (ds ++ [])).results = [.lit (.bool true)] ∧ (Rows.chainNobodySpec.fn H (ds ++ [])).args = ds ∧ (Rows.chainNobodySpec.fn H (ds ++ [])).vars = [] := by
    match ds, hds with
    | [d0, d1], _ => exact ⟨rfl, rfl, rfl⟩
  exact lawPost (n := 12) Try.laidOut (by kernel_rfl) (show _ = #[4] from by kernel_rfl) Try.underlying4 rfl hs (fun j t v h1 h2 => Value.okWide_any_base (hval j t v h1 h2)) hW (by kernel_rfl) hG chainNobody_avs

theorem chainNobody_holds : Rows.ChainNobodySaid :=
  OpenClaim.holds_of_wide 7 Try.f7 rfl rfl rfl rfl rfl rfl rfl ⟨rfl, rfl, rfl, rfl, rfl⟩ rfl rfl rfl rfl rfl (by kernel_rfl) Try.func7 (by kernel_rfl)
    (of_decide_eq_true (by kernel_rfl)) (by unfold Func.isWrapper; first | (rw [if_pos (by decide +kernel)]; kernel_rfl) | (rw [if_neg (by decide +kernel)]; exact ⟨rfl, rfl⟩))
    (fun os started H enc _ => chainNobody_lifted os started H enc)

end Go.Proofs.Ytbefcdgjainflaa
#print axioms Go.Proofs.Ytbefcdgjainflaa.chainNobody_holds
