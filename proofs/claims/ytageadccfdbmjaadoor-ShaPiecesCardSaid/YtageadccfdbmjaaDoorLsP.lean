/- The statement ShaPieces is proved as its card says it: for every input, the listed variable holding what the program's text lays. -/
import Derived.Test.YtageadccfdbmjaaDoorShM
import Derived.Test.YtageadccfdbmjaaDoorSxW
import Derived.Test.YtageadccfdbmjaaDoorShL
import Derived.Test.YtageadccfdbmjaaDoorCards
import Derived.Test.YtageadccfdbmjaaDoorTie
import Derived.SevenTiedAt
set_option linter.unusedVariables false
set_option linter.unusedSimpArgs false
namespace Go.Proofs.YtageadccfdbmjaaDoor
open Go.ChangeShapes Go.WideShapes Go.ChangeAt Go.RowKit
open Sx
theorem shaPieces_avs (avs : List AV) (h : OpnAs Tryd.prog Tryd.f4.params.toList [.sl 1 false (.slI .u8)] avs) (hZ : ∀ cs : List (List Int), avs = [.lst 1 (cs.map (.lstI .u8))] → cs.length ≤ 140737488355328 ∧ ∀ c ∈ cs, c.length ≤ 140737488355328) : FnR Tryd.prog G 4 avs [] (.bool true) [] := by
  obtain ⟨_, _, rfl, ⟨vs, rfl, hal, hA⟩, hl⟩ := OpnAs.cons h
  obtain rfl := hl
  obtain ⟨cs, rfl⟩ := lists_of hA
  simp only [show isAg Tryd.prog 34 = false from by kernel_rfl] at hZ ⊢
  exact pieces_fn cs (hZ cs rfl).1 (hZ cs rfl).2
set_option maxRecDepth 100000 in
theorem shaPieces_lifted (os : Os) (started : os.Started) (H : Type) (enc : TypeId × Value → H) :
    ReturnsInHanded {} Tryd.checked os 4 .any (fun w args => (Rows.shaPiecesSpec.pre enc Tryd.prog Tryd.f4 [] false w args ∧ laidMetH Tryd.prog laidL w) ∧ sizedMet enc Tryd.prog Tryd.f4 (OpenSpec.ofChange Rows.shaPiecesSpec) false w args)
      (Rows.shaPiecesSpec.post enc Tryd.prog Tryd.f4 false true false false) := by
  refine returnsInHanded_of_change_and (C := Tryd.checked) (X := fun w _ => laidMetH Tryd.prog laidL w) (fun _ _ _ hh h => h.of_heap hh) Tryd.own started (by kernel_rfl) Tryd.func4
    (ChangeSpec.witness_shaped (enc := enc) (C := Tryd.checked) (os := os) (X := fun w _ => laidMetH Tryd.prog laidL w) false (World.doorLaid Tryd.prog 14 os) #[.slice none 0 0] 12 rfl (World.shaped_of_RefB (by kernel_rfl) (by kernel_rfl)) (by kernel_rfl) (by kernel_rfl) (by kernel_rfl) (door_met os _)) ?_
  intro W base args ds gs before hval hW _ hz hL _
  have hgs : gs = [] := by
    obtain ⟨p, q, _, hV, _⟩ := hW
    cases gs with
    | nil => rfl
    | cons g gs => exact hV.elim
  subst hgs
  have hds : ds.length = 1 := by
    obtain ⟨p, q, hA, _⟩ := hW
    exact trodAll_len hA
  have hs : (Rows.shaPiecesSpec.fn H (ds ++ [])).results = [.lit (.bool true)] ∧ (Rows.shaPiecesSpec.fn H (ds ++ [])).args = ds ∧ (Rows.shaPiecesSpec.fn H (ds ++ [])).vars = [] := by
    match ds, hds with
    | [d0], _ => exact ⟨rfl, rfl, rfl⟩
  refine lawPostS (n := 12) Tryd.laidOut (by kernel_rfl) (show _ = #[4] from by kernel_rfl) Tryd.underlying4 rfl hs (fun j t v h1 h2 => Value.okWide_any_base (hval j t v h1 h2)) hW (by kernel_rfl) (of_laid hL) (fun avs h hR => shaPieces_avs avs h (fun cs hav => ?_))
  subst hav
  obtain ⟨p, q, hA, _⟩ := id hW
  obtain ⟨v, hv, hrv⟩ := hR 0 _ rfl
  obtain ⟨d0, rfl⟩ : ∃ d0, ds = [d0] := by
    match ds, hds with
    | [d0], _ => exact ⟨d0, rfl⟩
  rw [show Tryd.f4.params.toList = [34] from by kernel_rfl] at hA
  have hz2 : (d0.weights Tryd.prog 34).all (· ≤ reachBytes) = true := by
    have e : DataW.weightsEach Tryd.prog (Tryd.f4.params.toList ++ Rows.shaPiecesSpec.plain.varTypes Tryd.prog) ([d0] ++ []) = d0.weights Tryd.prog 34 ++ [] := by kernel_rfl
    have h2 : ((d0.weights Tryd.prog 34) ++ []).all (· ≤ reachBytes) = true := by rw [← e]; exact hz
    rwa [List.append_nil] at h2
  generalize args.toList = al at hA hv
  match al, hA with
  | v0 :: al, hA =>
    obtain ⟨a, b, ⟨fuel, ht⟩, _, _⟩ := hA
    cases hv
    have := rows_le (B := reachBytes) Tryd.underlying34 Tryd.underlying22 (by kernel_rfl) (of_decide_eq_true (by kernel_rfl)) (of_decide_eq_true (by kernel_rfl)) hrv ht hz2
    have hB : reachBytes ≤ 140737488355328 := by decide
    exact ⟨by omega, fun c hc => by have := this.2 c hc; omega⟩


theorem shaPieces_holds : Rows.ShaPiecesSaid :=
  OpenClaim.holds_of_wide 4 Tryd.f4 rfl rfl rfl rfl rfl rfl rfl ⟨rfl, rfl, rfl, rfl, rfl⟩ rfl rfl rfl rfl rfl (by kernel_rfl) Tryd.func4 (by kernel_rfl)
    (of_decide_eq_true (by kernel_rfl)) (by unfold Func.isWrapper; first | (rw [if_pos (by decide +kernel)]; kernel_rfl) | (rw [if_neg (by decide +kernel)]; exact ⟨rfl, rfl⟩))
    (fun os started H enc _ => shaPieces_lifted os started H enc)

theorem shaPieces_card : Rows.ShaPiecesCardSaid :=
  Claim7.holds_tied_plain_at .later [] [.data, .data] true (true, "2da0f5dd4f1eaf67b4a5011aec12f871ec5da044094c3f8e8c7dde4c58860a7f") false
    shaPieces_holds (fun _ h => by cases h) (by kernel_rfl) (fun _ h => by cases h) shaPieces_row_tie rfl ⟨rfl, rfl⟩ (by kernel_rfl) rfl
    (fun f fn hf hfn => by
      obtain rfl : f = 4 := Option.some.inj ((show Tryd.prog.funcNamed "signetring/signetringlaw03.ShaPieces" = some 4 by kernel_rfl).symm.trans hf) |>.symm
      obtain rfl : fn = Tryd.f4 := (Option.some.inj (Tryd.func4.symm.trans hfn)).symm
      exact ⟨by kernel_rfl, fun j t ht => by
        have hp : Tryd.f4.params = #[34] := by kernel_rfl
        rw [hp] at ht
        have hm : t ∈ [34] := by simpa using Array.mem_of_getElem? ht
        have hall : ([34].all fun u => !Tryd.prog.wantsStandIn u) = true := by kernel_rfl
        exact (show Tryd.prog.wantsStandIn t = false by simpa using List.all_eq_true.1 hall t hm)⟩)
    (by kernel_rfl)

end Go.Proofs.YtageadccfdbmjaaDoor
#print axioms Go.Proofs.YtageadccfdbmjaaDoor.shaPieces_card
