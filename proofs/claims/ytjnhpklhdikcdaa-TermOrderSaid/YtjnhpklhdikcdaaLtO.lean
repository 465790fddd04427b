/- The statement TermOrder is proved, for every input, with no further condition. -/
import Derived.Test.YtjnhpklhdikcdaaTnH
import Derived.Test.YtjnhpklhdikcdaaTnI
import Derived.Test.YtjnhpklhdikcdaaSxW
import Derived.Test.YtjnhpklhdikcdaaRows
import Derived.ProofKit
set_option linter.unusedVariables false
set_option linter.unusedSimpArgs false
namespace Go.Proofs.Ytjnhpklhdikcdaa
open Go.ChangeShapes Go.WideShapes Go.ChangeAt Go.RowKit
open Sx

theorem Try.own : ownKnob Try.prog.godebug = none := by kernel_rfl
theorem Try.laidOut : laidOutB Try.prog = true := by kernel_rfl
theorem termOrder_avs (avs : List AV) (h : OpnAs Try.prog Try.f8.params.toList [.sl 6 true shAc, .sl 6 true shAc] avs) : FnR Try.prog G 8 avs [] (.bool true) [] := by
  obtain ⟨_, _, rfl, ⟨av, rfl, hn, hA⟩, h1⟩ := OpnAs.cons h
  obtain ⟨_, _, rfl, ⟨bv, rfl, hm, hB⟩, hl⟩ := OpnAs.cons h1
  obtain rfl := hl
  obtain ⟨l, rfl, hl⟩ := acs_of hA
  obtain ⟨more, rfl, hl2⟩ := acs_of hB
  simp only [show isAg Try.prog 22 = false from by kernel_rfl]
  have h63 : maxLen = 9223372036854775807 := by decide
  rw [List.length_map] at hn hm
  exact order_fn l more (by omega) (by omega) hl hl2
set_option maxRecDepth 100000 in
theorem termOrder_lifted (os : Os) (started : os.Started) (H : Type) (enc : TypeId × Value → H) :
    ReturnsInHanded {} Try.checked os 8 .any (Rows.termOrderSpec.pre6 enc Try.prog Try.f8 Rows.termOrderRow.domain false) (Rows.termOrderSpec.post enc Try.prog Try.f8 false true false false) := by
  refine returnsInHanded_of_change (C := Try.checked) Try.own started (by kernel_rfl) Try.func8
    (ChangeSpec.witness6 (enc := enc) (C := Try.checked) false ⟨#[], #[.slice none 0 0, .slice none 0 0], []⟩ 12 (by kernel_rfl) (by kernel_rfl) (by kernel_rfl) (by kernel_rfl)) ?_
  intro W base args ds gs before hval hW hcnd _
  have hgs : gs = [] := by
    obtain ⟨p, q, _, hV, _⟩ := hW
    cases gs with
    | nil => rfl
    | cons g gs => exact hV.elim
  subst hgs
  have hds : ds.length = 2 := by
    obtain ⟨p, q, hA, _⟩ := hW
    exact trodAll_len hA
  have hs : (Rows.termOrderSpec.fn H (ds ++ [])).results = [.lit (.bool true)] ∧ (Rows.termOrderSpec.fn H (ds ++ [])).args = ds ∧ (Rows.termOrderSpec.fn H (ds ++ [])).vars = [] := by
    match ds, hds with
    | [d0, d1], _ => exact ⟨rfl, rfl, rfl⟩
  exact lawPost (n := 12) Try.laidOut (by kernel_rfl) (show _ = #[4] from by kernel_rfl) Try.underlying4 rfl hs (fun j t v h1 h2 => Value.okWide_any_base (hval j t v h1 h2)) hW (by kernel_rfl) (fun g x h => by cases h) termOrder_avs

theorem termOrder_holds : Rows.TermOrderSaid :=
  OpenClaim.holds_of_wide 8 Try.f8 rfl rfl rfl rfl rfl rfl rfl ⟨rfl, rfl, rfl, rfl, rfl⟩ rfl rfl rfl rfl rfl (by kernel_rfl) Try.func8 (by kernel_rfl)
    (of_decide_eq_true (by kernel_rfl)) (by unfold Func.isWrapper; first | (rw [if_pos (by decide +kernel)]; kernel_rfl) | (rw [if_neg (by decide +kernel)]; exact ⟨rfl, rfl⟩))
    (fun os started H enc _ => termOrder_lifted os started H enc)

end Go.Proofs.Ytjnhpklhdikcdaa
#print axioms Go.Proofs.Ytjnhpklhdikcdaa.termOrder_holds
