/- The statement TermBoth is proved, for every input, with no further condition. -/
import Derived.Test.YtjnhpklhdikcdaaTnM
import Derived.Test.YtjnhpklhdikcdaaTnI
import Derived.Test.YtjnhpklhdikcdaaSxW
import Derived.Test.YtjnhpklhdikcdaaRows
import Derived.ProofKit
set_option linter.unusedVariables false
set_option linter.unusedSimpArgs false
namespace Go.Proofs.Ytjnhpklhdikcdaa
open Go.ChangeShapes Go.WideShapes Go.ChangeAt Go.RowKit
open Sx

theorem Try.own : ownKnob Try.prog.godebug = none := by kernel_rfl
theorem Try.laidOut : laidOutB Try.prog = true := by kernel_rfl
theorem termBoth_avs (avs : List AV) (h : OpnAs Try.prog Try.f5.params.toList [.sl 6 true shAc, .str, .str] avs) : FnR Try.prog G 5 avs [] (.bool true) [] := by
  obtain ⟨_, _, rfl, ⟨av, rfl, hn, hA⟩, h1⟩ := OpnAs.cons h
  obtain ⟨_, _, rfl, ⟨a, rfl, _⟩, h2⟩ := OpnAs.cons h1
  obtain ⟨_, _, rfl, ⟨b, rfl, _⟩, hl⟩ := OpnAs.cons h2
  obtain rfl := hl
  obtain ⟨l, rfl, hl⟩ := acs_of hA
  simp only [show isAg Try.prog 22 = false from by kernel_rfl, show isAg Try.prog 9 = false from by kernel_rfl]
  have h63 : maxLen = 9223372036854775807 := by decide
  rw [List.length_map] at hn
  cases hv : hvB l with
  | true => exact both_heavy l a b (by omega) hv
  | false =>
    by_cases ha : a.size ≤ 1000
    · by_cases hb : b.size ≤ 1000
      · exact both_fn l a b (by omega) hl hv ha hb
      · exact both_long2 l a b (by omega) hv ha (by omega)
    · exact both_long1 l a b (by omega) hv (by omega)
set_option maxRecDepth 100000 in
theorem termBoth_lifted (os : Os) (started : os.Started) (H : Type) (enc : TypeId × Value → H) :
    ReturnsInHanded {} Try.checked os 5 .any (Rows.termBothSpec.pre6 enc Try.prog Try.f5 Rows.termBothRow.domain false) (Rows.termBothSpec.post enc Try.prog Try.f5 false true false false) := by
  refine returnsInHanded_of_change (C := Try.checked) Try.own started (by kernel_rfl) Try.func5
    (ChangeSpec.witness6 (enc := enc) (C := Try.checked) false ⟨#[], #[.slice none 0 0, .string .empty, .string .empty], []⟩ 12 (by kernel_rfl) (by kernel_rfl) (by kernel_rfl) (by kernel_rfl)) ?_
  intro W base args ds gs before hval hW hcnd _
  have hgs : gs = [] := by
    obtain ⟨p, q, _, hV, _⟩ := hW
    cases gs with
    | nil => rfl
    | cons g gs => exact hV.elim
  subst hgs
  have hds : ds.length = 3 := by
    obtain ⟨p, q, hA, _⟩ := hW
    exact trodAll_len hA
  have hs : (Rows.termBothSpec.fn H (ds ++ [])).results = [.lit (.bool true)] ∧ (Rows.termBothSpec.fn H (ds ++ [])).args = ds ∧ (Rows.termBothSpec.fn H (ds ++ [])).vars = [] := by
    match ds, hds with
    | [d0, d1, d2], _ => exact ⟨rfl, rfl, rfl⟩
  exact lawPost (n := 12) Try.laidOut (by kernel_rfl) (show _ = #[4] from by kernel_rfl) Try.underlying4 rfl hs (fun j t v h1 h2 => Value.okWide_any_base (hval j t v h1 h2)) hW (by kernel_rfl) (fun g x h => by cases h) termBoth_avs

theorem termBoth_holds : Rows.TermBothSaid :=
  OpenClaim.holds_of_wide 5 Try.f5 rfl rfl rfl rfl rfl rfl rfl ⟨rfl, rfl, rfl, rfl, rfl⟩ rfl rfl rfl rfl rfl (by kernel_rfl) Try.func5 (by kernel_rfl)
    (of_decide_eq_true (by kernel_rfl)) (by unfold Func.isWrapper; first | (rw [if_pos (by decide +kernel)]; kernel_rfl) | (rw [if_neg (by decide +kernel)]; exact ⟨rfl, rfl⟩))
    (fun os started H enc _ => termBoth_lifted os started H enc)

end Go.Proofs.Ytjnhpklhdikcdaa
#print axioms Go.Proofs.Ytjnhpklhdikcdaa.termBoth_holds
