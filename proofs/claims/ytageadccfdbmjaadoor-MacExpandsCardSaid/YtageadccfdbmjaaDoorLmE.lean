/- The statement MacExpands is proved as its card says it: for every input, the listed variable holding what the program's text lays. -/
import Derived.Test.YtageadccfdbmjaaDoorMkE
import Derived.Test.YtageadccfdbmjaaDoorShL
import Derived.Test.YtageadccfdbmjaaDoorCards
import Derived.Test.YtageadccfdbmjaaDoorTie
import Derived.SevenTiedAt
set_option linter.unusedVariables false
set_option linter.unusedSimpArgs false
namespace Go.Proofs.YtageadccfdbmjaaDoor
open Go.ChangeShapes Go.WideShapes Go.ChangeAt Go.RowKit
open Sx
theorem macExpands_avs (avs : List AV) (h : OpnAs Tryd.prog Tryd.f9.params.toList [.arrI .u8 32, .slI .u8, .int .i64] avs) : FnR Tryd.prog G 9 avs [] (.bool true) [] := by
  obtain ⟨_, _, rfl, ⟨key, rfl, hkl, hk⟩, h1⟩ := OpnAs.cons h
  obtain ⟨_, _, rfl, ⟨info, rfl, hi, hI⟩, h2⟩ := OpnAs.cons h1
  obtain ⟨_, _, rfl, ⟨n, rfl, hn⟩, hl⟩ := OpnAs.cons h2
  obtain rfl := hl
  simp only [show isAg Tryd.prog 24 = true from by kernel_rfl, show isAg Tryd.prog 22 = false from by kernel_rfl, show isAg Tryd.prog 3 = false from by kernel_rfl]
  exact expands4_fn key info n hkl (fun x hx => by have := (hk x hx).u8; omega) (fun x hx => by have := (hI x hx).u8; omega)
set_option maxRecDepth 100000 in
theorem macExpands_lifted (os : Os) (started : os.Started) (H : Type) (enc : TypeId × Value → H) :
    ReturnsInHanded {} Tryd.checked os 9 .any (fun w args => (Rows.macExpandsSpec.pre enc Tryd.prog Tryd.f9 [] false w args ∧ laidMetH Tryd.prog laidL w) ∧ sizedMet enc Tryd.prog Tryd.f9 (OpenSpec.ofChange Rows.macExpandsSpec) false w args)
      (Rows.macExpandsSpec.post enc Tryd.prog Tryd.f9 false true false false) := by
  refine returnsInHanded_of_change_and (C := Tryd.checked) (X := fun w _ => laidMetH Tryd.prog laidL w) (fun _ _ _ hh h => h.of_heap hh) Tryd.own started (by kernel_rfl) Tryd.func9
    (ChangeSpec.witness_shaped (enc := enc) (C := Tryd.checked) (os := os) (X := fun w _ => laidMetH Tryd.prog laidL w) false (World.doorLaid Tryd.prog 14 os) #[.agg #[.int .u8 0, .int .u8 0, .int .u8 0, .int .u8 0, .int .u8 0, .int .u8 0, .int .u8 0, .int .u8 0, .int .u8 0, .int .u8 0, .int .u8 0, .int .u8 0, .int .u8 0, .int .u8 0, .int .u8 0, .int .u8 0, .int .u8 0, .int .u8 0, .int .u8 0, .int .u8 0, .int .u8 0, .int .u8 0, .int .u8 0, .int .u8 0, .int .u8 0, .int .u8 0, .int .u8 0, .int .u8 0, .int .u8 0, .int .u8 0, .int .u8 0, .int .u8 0], .slice none 0 0, .int .i64 0] 12 rfl (World.shaped_of_RefB (by kernel_rfl) (by kernel_rfl)) (by kernel_rfl) (by kernel_rfl) (by kernel_rfl) (door_met os _)) ?_
  intro W base args ds gs before hval hW _ _ hL _
  have hgs : gs = [] := by
    obtain ⟨p, q, _, hV, _⟩ := hW
    cases gs with
    | nil => rfl
    | cons g gs => exact hV.elim
  subst hgs
  have hds : ds.length = 3 := by
    obtain ⟨p, q, hA, _⟩ := hW
    exact trodAll_len hA
  have hs : (Rows.macExpandsSpec.fn H (ds ++ [])).results = [.lit (.bool true)] ∧ (Rows.macExpandsSpec.fn H (ds ++ [])).args = ds ∧ (Rows.macExpandsSpec.fn H (ds ++ [])).vars = [] := by
    match ds, hds with
    | [d0, d1, d2], _ => exact ⟨rfl, rfl, rfl⟩
  exact lawPost (n := 12) Tryd.laidOut (by kernel_rfl) (show _ = #[4] from by kernel_rfl) Tryd.underlying4 rfl hs (fun j t v h1 h2 => Value.okWide_any_base (hval j t v h1 h2)) hW (by kernel_rfl) (of_laid hL) macExpands_avs

theorem macExpands_holds : Rows.MacExpandsSaid :=
  OpenClaim.holds_of_wide 9 Tryd.f9 rfl rfl rfl rfl rfl rfl rfl ⟨rfl, rfl, rfl, rfl, rfl⟩ rfl rfl rfl rfl rfl (by kernel_rfl) Tryd.func9 (by kernel_rfl)
    (of_decide_eq_true (by kernel_rfl)) (by unfold Func.isWrapper; first | (rw [if_pos (by decide +kernel)]; kernel_rfl) | (rw [if_neg (by decide +kernel)]; exact ⟨rfl, rfl⟩))
    (fun os started H enc _ => macExpands_lifted os started H enc)

theorem macExpands_card : Rows.MacExpandsCardSaid :=
  Claim7.holds_tied_plain_at .later [] [.data, .data] true (true, "2da0f5dd4f1eaf67b4a5011aec12f871ec5da044094c3f8e8c7dde4c58860a7f") false
    macExpands_holds (fun _ h => by cases h) (by kernel_rfl) (fun _ h => by cases h) macExpands_row_tie rfl ⟨rfl, rfl⟩ (by kernel_rfl) rfl
    (fun f fn hf hfn => by
      obtain rfl : f = 9 := Option.some.inj ((show Tryd.prog.funcNamed "signetring/signetringlaw04.MacExpands" = some 9 by kernel_rfl).symm.trans hf) |>.symm
      obtain rfl : fn = Tryd.f9 := (Option.some.inj (Tryd.func9.symm.trans hfn)).symm
      exact ⟨by kernel_rfl, fun j t ht => by
        have hp : Tryd.f9.params = #[24, 22, 3] := by kernel_rfl
        rw [hp] at ht
        have hm : t ∈ [24, 22, 3] := by simpa using Array.mem_of_getElem? ht
        have hall : ([24, 22, 3].all fun u => !Tryd.prog.wantsStandIn u) = true := by kernel_rfl
        exact (show Tryd.prog.wantsStandIn t = false by simpa using List.all_eq_true.1 hall t hm)⟩)
    (by kernel_rfl)

end Go.Proofs.YtageadccfdbmjaaDoor
#print axioms Go.Proofs.YtageadccfdbmjaaDoor.macExpands_card
