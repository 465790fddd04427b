/- The statement StreamEnd is proved as its card says it: for every input, the listed variable holding what the program's text lays. -/
import Derived.Test.YtcjmbeikjinedaaDoorStG
import Derived.Test.YtcjmbeikjinedaaDoorStL
import Derived.Test.YtcjmbeikjinedaaDoorCards
import Derived.Test.YtcjmbeikjinedaaDoorTie
import Derived.SevenTiedAt
set_option linter.unusedVariables false
set_option linter.unusedSimpArgs false
namespace Go.Proofs.YtcjmbeikjinedaaDoor
open Go.ChangeShapes Go.WideShapes Go.ChangeAt Go.RowKit
open Sx
theorem streamEnd_avs (avs : List AV) (h : OpnAs Tryd.prog Tryd.f6.params.toList [.arrI .u8 32, .int .u8, .int .u16] avs) : FnR Tryd.prog G 6 avs [] (.bool true) [] := by
  obtain ⟨_, _, rfl, ⟨key, rfl, hkl, hk⟩, h1⟩ := OpnAs.cons h
  obtain ⟨_, _, rfl, ⟨l, rfl, hL⟩, h2⟩ := OpnAs.cons h1
  obtain ⟨_, _, rfl, ⟨n, rfl, hN⟩, hl⟩ := OpnAs.cons h2
  obtain rfl := hl
  simp only [show isAg Tryd.prog 22 = true from by kernel_rfl, show isAg Tryd.prog 5 = false from by kernel_rfl, show isAg Tryd.prog 40 = false from by kernel_rfl]
  have h3 := hL.u8
  have h4 := hN.u16
  obtain ⟨l, rfl⟩ := Int.eq_ofNat_of_zero_le h3.1
  obtain ⟨n, rfl⟩ := Int.eq_ofNat_of_zero_le h4.1
  exact end_fn key l n hkl (by omega) (by omega)
set_option maxRecDepth 100000 in
theorem streamEnd_lifted (os : Os) (started : os.Started) (H : Type) (enc : TypeId × Value → H) :
    ReturnsInHanded {} Tryd.checked os 6 .any (fun w args => (Rows.streamEndSpec.pre enc Tryd.prog Tryd.f6 [] false w args ∧ laidMetH Tryd.prog laidL w) ∧ sizedMet enc Tryd.prog Tryd.f6 (OpenSpec.ofChange Rows.streamEndSpec) false w args)
      (Rows.streamEndSpec.post enc Tryd.prog Tryd.f6 false true false false) := by
  refine returnsInHanded_of_change_and (C := Tryd.checked) (X := fun w _ => laidMetH Tryd.prog laidL w) (fun _ _ _ hh h => h.of_heap hh) Tryd.own started (by kernel_rfl) Tryd.func6
    (ChangeSpec.witness_shaped (enc := enc) (C := Tryd.checked) (os := os) (X := fun w _ => laidMetH Tryd.prog laidL w) false (World.doorLaid Tryd.prog 14 os) #[.agg #[.int .u8 0, .int .u8 0, .int .u8 0, .int .u8 0, .int .u8 0, .int .u8 0, .int .u8 0, .int .u8 0, .int .u8 0, .int .u8 0, .int .u8 0, .int .u8 0, .int .u8 0, .int .u8 0, .int .u8 0, .int .u8 0, .int .u8 0, .int .u8 0, .int .u8 0, .int .u8 0, .int .u8 0, .int .u8 0, .int .u8 0, .int .u8 0, .int .u8 0, .int .u8 0, .int .u8 0, .int .u8 0, .int .u8 0, .int .u8 0, .int .u8 0, .int .u8 0], .int .u8 0, .int .u16 0] 12 rfl (World.shaped_of_RefB (by kernel_rfl) (by kernel_rfl)) (by kernel_rfl) (by kernel_rfl) (by kernel_rfl) (door_met os _)) ?_
  intro W base args ds gs before hval hW _ _ hL _
  have hgs : gs = [] := by
    obtain ⟨p, q, _, hV, _⟩ := hW
    cases gs with
    | nil => rfl
    | cons g gs => exact hV.elim
  subst hgs
  have hds : ds.length = 3 := by
    obtain ⟨p, q, hA, _⟩ := hW
    exact trodAll_len hA
  have hs : (Rows.streamEndSpec.fn H (ds ++ [])).results = [.lit (.bool true)] ∧ (Rows.streamEndSpec.fn H (ds ++ [])).args = ds ∧ (Rows.streamEndSpec.fn H (ds ++ [])).vars = [] := by
    match ds, hds with
    | [d0, d1, d2], _ => exact ⟨rfl, rfl, rfl⟩
  exact lawPost (n := 12) Tryd.laidOut (by kernel_rfl) (show _ = #[4] from by kernel_rfl) Tryd.underlying4 rfl hs (fun j t v h1 h2 => Value.okWide_any_base (hval j t v h1 h2)) hW (by kernel_rfl) (of_laid hL) streamEnd_avs

theorem streamEnd_holds : Rows.StreamEndSaid :=
  OpenClaim.holds_of_wide 6 Tryd.f6 rfl rfl rfl rfl rfl rfl rfl ⟨rfl, rfl, rfl, rfl, rfl⟩ rfl rfl rfl rfl rfl (by kernel_rfl) Tryd.func6 (by kernel_rfl)
    (of_decide_eq_true (by kernel_rfl)) (by unfold Func.isWrapper; first | (rw [if_pos (by decide +kernel)]; kernel_rfl) | (rw [if_neg (by decide +kernel)]; exact ⟨rfl, rfl⟩))
    (fun os started H enc _ => streamEnd_lifted os started H enc)

theorem streamEnd_card : Rows.StreamEndCardSaid :=
  Claim7.holds_tied_plain_at .later [] [.widerDeep] true (true, "b20c8361cc202ef41cb56edc677fe15da5d0f45470000d9b2df6ff2b32472bf2") false
    streamEnd_holds (fun _ h => by cases h) (by kernel_rfl) (fun _ h => by cases h) streamEnd_row_tie rfl ⟨rfl, rfl⟩ (by kernel_rfl) rfl
    (fun f fn hf hfn => by
      obtain rfl : f = 6 := Option.some.inj ((show Tryd.prog.funcNamed "signetring/signetringlaw05.StreamEnd" = some 6 by kernel_rfl).symm.trans hf) |>.symm
      obtain rfl : fn = Tryd.f6 := (Option.some.inj (Tryd.func6.symm.trans hfn)).symm
      exact ⟨by kernel_rfl, fun j t ht => by
        have hp : Tryd.f6.params = #[22, 5, 40] := by kernel_rfl
        rw [hp] at ht
        have hm : t ∈ [22, 5, 40] := by simpa using Array.mem_of_getElem? ht
        have hall : ([22, 5, 40].all fun u => !Tryd.prog.wantsStandIn u) = true := by kernel_rfl
        exact (show Tryd.prog.wantsStandIn t = false by simpa using List.all_eq_true.1 hall t hm)⟩)
    (by kernel_rfl)

end Go.Proofs.YtcjmbeikjinedaaDoor
#print axioms Go.Proofs.YtcjmbeikjinedaaDoor.streamEnd_card
