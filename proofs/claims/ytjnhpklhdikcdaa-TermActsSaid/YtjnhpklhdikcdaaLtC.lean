/- The statement TermActs is proved, for every input, with no further condition. -/
import Derived.Test.YtjnhpklhdikcdaaTnU
import Derived.Test.YtjnhpklhdikcdaaTnI
import Derived.Test.YtjnhpklhdikcdaaSxW
import Derived.Test.YtjnhpklhdikcdaaRows
import Derived.ProofKit
set_option linter.unusedVariables false
set_option linter.unusedSimpArgs false
namespace Go.Proofs.Ytjnhpklhdikcdaa
open Go.ChangeShapes Go.WideShapes Go.ChangeAt Go.RowKit
open Sx

theorem Try.own : ownKnob Try.prog.godebug = none := by kernel_rfl
theorem Try.laidOut : laidOutB Try.prog = true := by kernel_rfl
theorem termActs_avs (avs : List AV) (h : OpnAs Try.prog Try.f3.params.toList [.sl 6 true shAc] avs) : FnR Try.prog G 3 avs [] (.bool true) [] := by
  obtain ⟨_, _, rfl, ⟨av, rfl, hn, hA⟩, hl⟩ := OpnAs.cons h
  obtain rfl := hl
  obtain ⟨l, rfl, hl⟩ := acs_of hA
  simp only [show isAg Try.prog 22 = false from by kernel_rfl]
  have h63 : maxLen = 9223372036854775807 := by decide
  rw [List.length_map] at hn
  cases hv : hvB l with
  | true => exact acts_heavy l (by omega) hv
  | false => exact acts_fn l (by omega) hl hv
set_option maxRecDepth 100000 in
theorem termActs_lifted (os : Os) (started : os.Started) (H : Type) (enc : TypeId × Value → H) :
    ReturnsInHanded {} Try.checked os 3 .any (Rows.termActsSpec.pre6 enc Try.prog Try.f3 Rows.termActsRow.domain false) (Rows.termActsSpec.post enc Try.prog Try.f3 false true false false) := by
  refine returnsInHanded_of_change (C := Try.checked) Try.own started (by kernel_rfl) Try.func3
    (ChangeSpec.witness6 (enc := enc) (C := Try.checked) false ⟨#[], #[.slice none 0 0], []⟩ 12 (by kernel_rfl) (by kernel_rfl) (by kernel_rfl) (by kernel_rfl)) ?_
  intro W base args ds gs before hval hW hcnd _
  have hgs : gs = [] := by
    obtain ⟨p, q, _, hV, _⟩ := hW
    cases gs with
    | nil => rfl
    | cons g gs => exact hV.elim
  subst hgs
  have hds : ds.length = 1 := by
    obtain ⟨p, q, hA, _⟩ := hW
    exact trodAll_len hA
  have hs : (Rows.termActsSpec.fn H (ds ++ [])).results = [.lit (.bool true)] ∧ (Rows.termActsSpec.fn H (ds ++ [])).args = ds ∧ (Rows.termActsSpec.fn H (ds ++ [])).vars = [] := by
    match ds, hds with
    | [d0], _ => exact ⟨rfl, rfl, rfl⟩
  exact lawPost (n := 12) Try.laidOut (by kernel_rfl) (show _ = #[4] from by kernel_rfl) Try.underlying4 rfl hs (fun j t v h1 h2 => Value.okWide_any_base (hval j t v h1 h2)) hW (by kernel_rfl) (fun g x h => by cases h) termActs_avs

theorem termActs_holds : Rows.TermActsSaid :=
  OpenClaim.holds_of_wide 3 Try.f3 rfl rfl rfl rfl rfl rfl rfl ⟨rfl, rfl, rfl, rfl, rfl⟩ rfl rfl rfl rfl rfl (by kernel_rfl) Try.func3 (by kernel_rfl)
    (of_decide_eq_true (by kernel_rfl)) (by unfold Func.isWrapper; first | (rw [if_pos (by decide +kernel)]; kernel_rfl) | (rw [if_neg (by decide +kernel)]; exact ⟨rfl, rfl⟩))
    (fun os started H enc _ => termActs_lifted os started H enc)

end Go.Proofs.Ytjnhpklhdikcdaa
#print axioms Go.Proofs.Ytjnhpklhdikcdaa.termActs_holds
