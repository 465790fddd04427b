/- The statement AeadTells is proved as its card says it: for every input, the listed variable holding what the program's text lays. -/
import Derived.Test.YtakgcmponelbeaaDoorAeS
import Derived.Test.YtakgcmponelbeaaDoorAeL
import Derived.Test.YtakgcmponelbeaaDoorCards
import Derived.Test.YtakgcmponelbeaaDoorTie
import Derived.SevenTiedAt
set_option linter.unusedVariables false
set_option linter.unusedSimpArgs false
namespace Go.Proofs.YtakgcmponelbeaaDoor
open Go.ChangeShapes Go.WideShapes Go.ChangeAt Go.RowKit
open Sx
theorem aeadTells_avs (avs : List AV) (h : OpnAs Tryd.prog Tryd.f3.params.toList [.st [.arrI .u8 32, .int .u64, .slI .u8], .slI .u8] avs) : FnR Tryd.prog G 3 avs [] (.bool true) [] := by
  obtain ⟨_, _, rfl, ⟨_, _, rfl, ⟨key, rfl, hkl, hk⟩, _, _, rfl, ⟨n, rfl, hn⟩, _, _, rfl, ⟨ad, rfl, hal, hA⟩, rfl⟩, h1⟩ := OpnAs.cons h
  obtain ⟨_, _, rfl, ⟨b, rfl, hb, hB⟩, hl⟩ := OpnAs.cons h1
  obtain rfl := hl
  simp only [show isAg Tryd.prog 26 = true from by kernel_rfl, show isAg Tryd.prog 24 = false from by kernel_rfl]
  have hn' := hn.u64
  exact tells_fn key n ad b hkl (by omega) (Bt.of_mem fun x hx => (hk x hx).u8) (Bt.of_mem fun x hx => (hA x hx).u8) (Bt.of_mem fun x hx => (hB x hx).u8)
set_option maxRecDepth 100000 in
theorem aeadTells_lifted (os : Os) (started : os.Started) (H : Type) (enc : TypeId × Value → H) :
    ReturnsInHanded {} Tryd.checked os 3 .any (fun w args => (Rows.aeadTellsSpec.pre enc Tryd.prog Tryd.f3 [] false w args ∧ laidMetH Tryd.prog laidL w) ∧ sizedMet enc Tryd.prog Tryd.f3 (OpenSpec.ofChange Rows.aeadTellsSpec) false w args)
      (Rows.aeadTellsSpec.post enc Tryd.prog Tryd.f3 false true false false) := by
  refine returnsInHanded_of_change_and (C := Tryd.checked) (X := fun w _ => laidMetH Tryd.prog laidL w) (fun _ _ _ hh h => h.of_heap hh) Tryd.own started (by kernel_rfl) Tryd.func3
    (ChangeSpec.witness_shaped (enc := enc) (C := Tryd.checked) (os := os) (X := fun w _ => laidMetH Tryd.prog laidL w) false (World.doorLaid Tryd.prog 14 os) #[.agg #[.int .u8 0, .int .u8 0, .int .u8 0, .int .u8 0, .int .u8 0, .int .u8 0, .int .u8 0, .int .u8 0, .int .u8 0, .int .u8 0, .int .u8 0, .int .u8 0, .int .u8 0, .int .u8 0, .int .u8 0, .int .u8 0, .int .u8 0, .int .u8 0, .int .u8 0, .int .u8 0, .int .u8 0, .int .u8 0, .int .u8 0, .int .u8 0, .int .u8 0, .int .u8 0, .int .u8 0, .int .u8 0, .int .u8 0, .int .u8 0, .int .u8 0, .int .u8 0, .int .u64 0, .slice none 0 0], .slice none 0 0] 12 rfl (World.shaped_of_RefB (by kernel_rfl) (by kernel_rfl)) (by kernel_rfl) (by kernel_rfl) (by kernel_rfl) (door_met os _)) ?_
  intro W base args ds gs before hval hW _ _ hL _
  have hgs : gs = [] := by
    obtain ⟨p, q, _, hV, _⟩ := hW
    cases gs with
    | nil => rfl
    | cons g gs => exact hV.elim
  subst hgs
  have hds : ds.length = 2 := by
    obtain ⟨p, q, hA, _⟩ := hW
    exact trodAll_len hA
  have hs : (Rows.aeadTellsSpec.fn H (ds ++ [])).results = [.lit (.bool true)] ∧ (Rows.aeadTellsSpec.fn H (ds ++ [])).args = ds ∧ (Rows.aeadTellsSpec.fn H (ds ++ [])).vars = [] := by
    match ds, hds with
    | [d0, d1], _ => exact ⟨rfl, rfl, rfl⟩
  exact lawPost (n := 12) Tryd.laidOut (by kernel_rfl) (show _ = #[4] from by kernel_rfl) Tryd.underlying4 rfl hs (fun j t v h1 h2 => Value.okWide_any_base (hval j t v h1 h2)) hW (by kernel_rfl) (of_laid hL) aeadTells_avs

theorem aeadTells_holds : Rows.AeadTellsSaid :=
  OpenClaim.holds_of_wide 3 Tryd.f3 rfl rfl rfl rfl rfl rfl rfl ⟨rfl, rfl, rfl, rfl, rfl⟩ rfl rfl rfl rfl rfl (by kernel_rfl) Tryd.func3 (by kernel_rfl)
    (of_decide_eq_true (by kernel_rfl)) (by unfold Func.isWrapper; first | (rw [if_pos (by decide +kernel)]; kernel_rfl) | (rw [if_neg (by decide +kernel)]; exact ⟨rfl, rfl⟩))
    (fun os started H enc _ => aeadTells_lifted os started H enc)

theorem aeadTells_card : Rows.AeadTellsCardSaid :=
  Claim7.holds_tied_plain_at .later [] [.widerDeep] true (true, "671248a5d49bb8ff82140ea5a65fbe0d7433cd7cbe34c0dcc06b8651e5cbfb3b") false
    aeadTells_holds (fun _ h => by cases h) (by kernel_rfl) (fun _ h => by cases h) aeadTells_row_tie rfl ⟨rfl, rfl⟩ (by kernel_rfl) rfl
    (fun f fn hf hfn => by
      obtain rfl : f = 3 := Option.some.inj ((show Tryd.prog.funcNamed "signetring/signetringlaw07.AeadTells" = some 3 by kernel_rfl).symm.trans hf) |>.symm
      obtain rfl : fn = Tryd.f3 := (Option.some.inj (Tryd.func3.symm.trans hfn)).symm
      exact ⟨by kernel_rfl, fun j t ht => by
        have hp : Tryd.f3.params = #[26, 24] := by kernel_rfl
        rw [hp] at ht
        have hm : t ∈ [26, 24] := by simpa using Array.mem_of_getElem? ht
        have hall : ([26, 24].all fun u => !Tryd.prog.wantsStandIn u) = true := by kernel_rfl
        exact (show Tryd.prog.wantsStandIn t = false by simpa using List.all_eq_true.1 hall t hm)⟩)
    (by kernel_rfl)

end Go.Proofs.YtakgcmponelbeaaDoor
#print axioms Go.Proofs.YtakgcmponelbeaaDoor.aeadTells_card
