/- The statement AeadBack is proved as its card says it: for every input, the listed variable holding what the program's text lays. -/
import Derived.Test.YtakgcmponelbeaaDoorAeJ
import Derived.Test.YtakgcmponelbeaaDoorAeL
import Derived.Test.YtakgcmponelbeaaDoorCards
import Derived.Test.YtakgcmponelbeaaDoorTie
import Derived.SevenTiedAt
set_option linter.unusedVariables false
set_option linter.unusedSimpArgs false
namespace Go.Proofs.YtakgcmponelbeaaDoor
open Go.ChangeShapes Go.WideShapes Go.ChangeAt Go.RowKit
open Sx
theorem aeadBack_avs (avs : List AV) (h : OpnAs Tryd.prog Tryd.f4.params.toList [.st [.arrI .u8 32, .int .u64, .slI .u8], .slI .u8, .int .u16] avs) : FnR Tryd.prog G 4 avs [] (.bool true) [] := by
  obtain ⟨_, _, rfl, ⟨_, _, rfl, ⟨key, rfl, hkl, hk⟩, _, _, rfl, ⟨n, rfl, hn⟩, _, _, rfl, ⟨ad, rfl, hal, hA⟩, rfl⟩, h1⟩ := OpnAs.cons h
  obtain ⟨_, _, rfl, ⟨b, rfl, hb, hB⟩, h2⟩ := OpnAs.cons h1
  obtain ⟨_, _, rfl, ⟨t, rfl, hT⟩, hl⟩ := OpnAs.cons h2
  obtain rfl := hl
  simp only [show isAg Tryd.prog 26 = true from by kernel_rfl, show isAg Tryd.prog 24 = false from by kernel_rfl, show isAg Tryd.prog 34 = false from by kernel_rfl]
  have h3 := hT.u16
  obtain ⟨t, rfl⟩ := Int.eq_ofNat_of_zero_le h3.1
  exact back_fn key n ad b t hkl (Bt.of_mem fun x hx => (hB x hx).u8) (by omega)
set_option maxRecDepth 100000 in
theorem aeadBack_lifted (os : Os) (started : os.Started) (H : Type) (enc : TypeId × Value → H) :
    ReturnsInHanded {} Tryd.checked os 4 .any (fun w args => (Rows.aeadBackSpec.pre enc Tryd.prog Tryd.f4 [] false w args ∧ laidMetH Tryd.prog laidL w) ∧ sizedMet enc Tryd.prog Tryd.f4 (OpenSpec.ofChange Rows.aeadBackSpec) false w args)
      (Rows.aeadBackSpec.post enc Tryd.prog Tryd.f4 false true false false) := by
  refine returnsInHanded_of_change_and (C := Tryd.checked) (X := fun w _ => laidMetH Tryd.prog laidL w) (fun _ _ _ hh h => h.of_heap hh) Tryd.own started (by kernel_rfl) Tryd.func4
    (ChangeSpec.witness_shaped (enc := enc) (C := Tryd.checked) (os := os) (X := fun w _ => laidMetH Tryd.prog laidL w) false (World.doorLaid Tryd.prog 14 os) #[.agg #[.int .u8 0, .int .u8 0, .int .u8 0, .int .u8 0, .int .u8 0, .int .u8 0, .int .u8 0, .int .u8 0, .int .u8 0, .int .u8 0, .int .u8 0, .int .u8 0, .int .u8 0, .int .u8 0, .int .u8 0, .int .u8 0, .int .u8 0, .int .u8 0, .int .u8 0, .int .u8 0, .int .u8 0, .int .u8 0, .int .u8 0, .int .u8 0, .int .u8 0, .int .u8 0, .int .u8 0, .int .u8 0, .int .u8 0, .int .u8 0, .int .u8 0, .int .u8 0, .int .u64 0, .slice none 0 0], .slice none 0 0, .int .u16 0] 12 rfl (World.shaped_of_RefB (by kernel_rfl) (by kernel_rfl)) (by kernel_rfl) (by kernel_rfl) (by kernel_rfl) (door_met os _)) ?_
  intro W base args ds gs before hval hW _ _ hL _
  have hgs : gs = [] := by
    obtain ⟨p, q, _, hV, _⟩ := hW
    cases gs with
    | nil => rfl
    | cons g gs => exact hV.elim
  subst hgs
  have hds : ds.length = 3 := by
    obtain ⟨p, q, hA, _⟩ := hW
    exact trodAll_len hA
  have hs : (Rows.aeadBackSpec.fn H (ds ++ [])).results = [.lit (.bool true)] ∧ (Rows.aeadBackSpec.fn H (ds ++ [])).args = ds ∧ (Rows.aeadBackSpec.fn H (ds ++ [])).vars = [] := by
    match ds, hds with
    | [d0, d1, d2], _ => exact ⟨rfl, rfl, rfl⟩
  exact lawPost (n := 12) Tryd.laidOut (by kernel_rfl) (show _ = #[4] from by kernel_rfl) Tryd.underlying4 rfl hs (fun j t v h1 h2 => Value.okWide_any_base (hval j t v h1 h2)) hW (by kernel_rfl) (of_laid hL) aeadBack_avs

theorem aeadBack_holds : Rows.AeadBackSaid :=
  OpenClaim.holds_of_wide 4 Tryd.f4 rfl rfl rfl rfl rfl rfl rfl ⟨rfl, rfl, rfl, rfl, rfl⟩ rfl rfl rfl rfl rfl (by kernel_rfl) Tryd.func4 (by kernel_rfl)
    (of_decide_eq_true (by kernel_rfl)) (by unfold Func.isWrapper; first | (rw [if_pos (by decide +kernel)]; kernel_rfl) | (rw [if_neg (by decide +kernel)]; exact ⟨rfl, rfl⟩))
    (fun os started H enc _ => aeadBack_lifted os started H enc)

theorem aeadBack_card : Rows.AeadBackCardSaid :=
  Claim7.holds_tied_plain_at .later [] [.widerDeep] true (true, "671248a5d49bb8ff82140ea5a65fbe0d7433cd7cbe34c0dcc06b8651e5cbfb3b") false
    aeadBack_holds (fun _ h => by cases h) (by kernel_rfl) (fun _ h => by cases h) aeadBack_row_tie rfl ⟨rfl, rfl⟩ (by kernel_rfl) rfl
    (fun f fn hf hfn => by
      obtain rfl : f = 4 := Option.some.inj ((show Tryd.prog.funcNamed "signetring/signetringlaw07.AeadBack" = some 4 by kernel_rfl).symm.trans hf) |>.symm
      obtain rfl : fn = Tryd.f4 := (Option.some.inj (Tryd.func4.symm.trans hfn)).symm
      exact ⟨by kernel_rfl, fun j t ht => by
        have hp : Tryd.f4.params = #[26, 24, 34] := by kernel_rfl
        rw [hp] at ht
        have hm : t ∈ [26, 24, 34] := by simpa using Array.mem_of_getElem? ht
        have hall : ([26, 24, 34].all fun u => !Tryd.prog.wantsStandIn u) = true := by kernel_rfl
        exact (show Tryd.prog.wantsStandIn t = false by simpa using List.all_eq_true.1 hall t hm)⟩)
    (by kernel_rfl)

end Go.Proofs.YtakgcmponelbeaaDoor
#print axioms Go.Proofs.YtakgcmponelbeaaDoor.aeadBack_card
