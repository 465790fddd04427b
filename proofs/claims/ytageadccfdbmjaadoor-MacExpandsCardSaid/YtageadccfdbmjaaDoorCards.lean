/-
  DERIVED. GIVEN WITH THE SEED: THE CARDS: each row of YtageadccfdbmjaaDoorRows.lean that lists a variable, with what it lists TIED to the program's text (the seventh form; the later family's looks); each row that meets fmt, with fmt's text TOLD by the authors' own Lean function (tested against real Go, not proved from fmt's source: count such statements apart). THE CARD IS WHAT COUNTS. Prove the row's statement (the work); the ties are given (YtageadccfdbmjaaDoorTie.lean); close each card by the builder's one call (the guide's Derived/Test/ToyasCard.lean, 'card_holds'). Laid BY PROGRAM, IN A SANDBOX (cutbox-door.mjs). By AI agents, Wed Nov 11 2026. No macro, syntax, notation, axiom, sorry.
-/
import Derived.Test.YtageadccfdbmjaaDoorRows
import GoSem.ClaimSeven
namespace Go.Proofs.YtageadccfdbmjaaDoor
namespace Rows

/-- THE TIED CARD OF 'signetringlaw03.ShaTells'. -/
def shaTellsCard : Claim7 := { stood := { row := shaTellsRow, standIns := [], harness := (true, "2da0f5dd4f1eaf67b4a5011aec12f871ec5da044094c3f8e8c7dde4c58860a7f"), looks := false }, kinds := [], alts := [], laidByText := true, laidKinds := [.data, .data], laidTests := true, laidLooks := .later }
def ShaTellsCardSaid : Prop := Claim7.holds Tryd.pinned (.plain (OpenSpec.ofChange shaTellsSpec)) shaTellsCard

/-- THE TIED CARD OF 'signetringlaw03.ShaPieces'. -/
def shaPiecesCard : Claim7 := { stood := { row := shaPiecesRow, standIns := [], harness := (true, "2da0f5dd4f1eaf67b4a5011aec12f871ec5da044094c3f8e8c7dde4c58860a7f"), looks := false }, kinds := [], alts := [], laidByText := true, laidKinds := [.data, .data], laidTests := true, laidLooks := .later }
def ShaPiecesCardSaid : Prop := Claim7.holds Tryd.pinned (.plain (OpenSpec.ofChange shaPiecesSpec)) shaPiecesCard

/-- THE TIED CARD OF 'signetringlaw03.ShaOwn'. -/
def shaOwnCard : Claim7 := { stood := { row := shaOwnRow, standIns := [], harness := (true, "2da0f5dd4f1eaf67b4a5011aec12f871ec5da044094c3f8e8c7dde4c58860a7f"), looks := false }, kinds := [], alts := [], laidByText := true, laidKinds := [.data, .data], laidTests := true, laidLooks := .later }
def ShaOwnCardSaid : Prop := Claim7.holds Tryd.pinned (.plain (OpenSpec.ofChange shaOwnSpec)) shaOwnCard

/-- THE TIED CARD OF 'signetringlaw03.ShaLong'. -/
def shaLongCard : Claim7 := { stood := { row := shaLongRow, standIns := [], harness := (true, "2da0f5dd4f1eaf67b4a5011aec12f871ec5da044094c3f8e8c7dde4c58860a7f"), looks := false }, kinds := [], alts := [], laidByText := true, laidKinds := [.data, .data], laidTests := true, laidLooks := .later }
def ShaLongCardSaid : Prop := Claim7.holds Tryd.pinned (.plain (OpenSpec.ofChange shaLongSpec)) shaLongCard

/-- THE TIED CARD OF 'signetringlaw03.ShaValues'. -/
def shaValuesCard : Claim7 := { stood := { row := shaValuesRow, standIns := [], harness := (true, "2da0f5dd4f1eaf67b4a5011aec12f871ec5da044094c3f8e8c7dde4c58860a7f"), looks := false }, kinds := [], alts := [], laidByText := true, laidKinds := [.data, .data], laidTests := true, laidLooks := .later }
def ShaValuesCardSaid : Prop := Claim7.holds Tryd.pinned (.plain (OpenSpec.ofChange shaValuesSpec)) shaValuesCard

/-- THE TIED CARD OF 'signetringlaw04.MacTells'. -/
def macTellsCard : Claim7 := { stood := { row := macTellsRow, standIns := [], harness := (true, "2da0f5dd4f1eaf67b4a5011aec12f871ec5da044094c3f8e8c7dde4c58860a7f"), looks := false }, kinds := [], alts := [], laidByText := true, laidKinds := [.data, .data], laidTests := true, laidLooks := .later }
def MacTellsCardSaid : Prop := Claim7.holds Tryd.pinned (.plain (OpenSpec.ofChange macTellsSpec)) macTellsCard

/-- THE TIED CARD OF 'signetringlaw04.MacExpands'. -/
def macExpandsCard : Claim7 := { stood := { row := macExpandsRow, standIns := [], harness := (true, "2da0f5dd4f1eaf67b4a5011aec12f871ec5da044094c3f8e8c7dde4c58860a7f"), looks := false }, kinds := [], alts := [], laidByText := true, laidKinds := [.data, .data], laidTests := true, laidLooks := .later }
def MacExpandsCardSaid : Prop := Claim7.holds Tryd.pinned (.plain (OpenSpec.ofChange macExpandsSpec)) macExpandsCard

/-- THE TIED CARD OF 'signetringlaw04.MacBeginnings'. -/
def macBeginningsCard : Claim7 := { stood := { row := macBeginningsRow, standIns := [], harness := (true, "2da0f5dd4f1eaf67b4a5011aec12f871ec5da044094c3f8e8c7dde4c58860a7f"), looks := false }, kinds := [], alts := [], laidByText := true, laidKinds := [.data, .data], laidTests := true, laidLooks := .later }
def MacBeginningsCardSaid : Prop := Claim7.holds Tryd.pinned (.plain (OpenSpec.ofChange macBeginningsSpec)) macBeginningsCard

/-- THE TIED CARD OF 'signetringlaw04.MacFilled'. -/
def macFilledCard : Claim7 := { stood := { row := macFilledRow, standIns := [], harness := (true, "2da0f5dd4f1eaf67b4a5011aec12f871ec5da044094c3f8e8c7dde4c58860a7f"), looks := false }, kinds := [], alts := [], laidByText := true, laidKinds := [.data, .data], laidTests := true, laidLooks := .later }
def MacFilledCardSaid : Prop := Claim7.holds Tryd.pinned (.plain (OpenSpec.ofChange macFilledSpec)) macFilledCard

/-- THE TIED CARD OF 'signetringlaw04.MacLong'. -/
def macLongCard : Claim7 := { stood := { row := macLongRow, standIns := [], harness := (true, "2da0f5dd4f1eaf67b4a5011aec12f871ec5da044094c3f8e8c7dde4c58860a7f"), looks := false }, kinds := [], alts := [], laidByText := true, laidKinds := [.data, .data], laidTests := true, laidLooks := .later }
def MacLongCardSaid : Prop := Claim7.holds Tryd.pinned (.plain (OpenSpec.ofChange macLongSpec)) macLongCard

/-- THE TIED CARD OF 'signetringlaw04.MacPieces'. -/
def macPiecesCard : Claim7 := { stood := { row := macPiecesRow, standIns := [], harness := (true, "2da0f5dd4f1eaf67b4a5011aec12f871ec5da044094c3f8e8c7dde4c58860a7f"), looks := false }, kinds := [], alts := [], laidByText := true, laidKinds := [.data, .data], laidTests := true, laidLooks := .later }
def MacPiecesCardSaid : Prop := Claim7.holds Tryd.pinned (.plain (OpenSpec.ofChange macPiecesSpec)) macPiecesCard

/-- THE TIED CARD OF 'signetringlaw04.MacKeys'. -/
def macKeysCard : Claim7 := { stood := { row := macKeysRow, standIns := [], harness := (true, "2da0f5dd4f1eaf67b4a5011aec12f871ec5da044094c3f8e8c7dde4c58860a7f"), looks := false }, kinds := [], alts := [], laidByText := true, laidKinds := [.data, .data], laidTests := true, laidLooks := .later }
def MacKeysCardSaid : Prop := Claim7.holds Tryd.pinned (.plain (OpenSpec.ofChange macKeysSpec)) macKeysCard

/-- THE SECOND FORM's CARD OF 'signetringlaw03.ShaTells'. -/
def shaTellsUptoCard : Claim7 := { stood := { row := shaTellsUptoRow, standIns := [], harness := (true, "2da0f5dd4f1eaf67b4a5011aec12f871ec5da044094c3f8e8c7dde4c58860a7f"), looks := false }, kinds := [], alts := [], laidByText := true, laidKinds := [.data, .data], laidTests := true, laidLooks := .later }
def ShaTellsUptoCardSaid : Prop := Claim7.holds Tryd.pinned (.plain (OpenSpec.upto shaTellsSpec)) shaTellsUptoCard

/-- THE SECOND FORM's CARD OF 'signetringlaw03.ShaPieces'. -/
def shaPiecesUptoCard : Claim7 := { stood := { row := shaPiecesUptoRow, standIns := [], harness := (true, "2da0f5dd4f1eaf67b4a5011aec12f871ec5da044094c3f8e8c7dde4c58860a7f"), looks := false }, kinds := [], alts := [], laidByText := true, laidKinds := [.data, .data], laidTests := true, laidLooks := .later }
def ShaPiecesUptoCardSaid : Prop := Claim7.holds Tryd.pinned (.plain (OpenSpec.upto shaPiecesSpec)) shaPiecesUptoCard

/-- THE SECOND FORM's CARD OF 'signetringlaw03.ShaOwn'. -/
def shaOwnUptoCard : Claim7 := { stood := { row := shaOwnUptoRow, standIns := [], harness := (true, "2da0f5dd4f1eaf67b4a5011aec12f871ec5da044094c3f8e8c7dde4c58860a7f"), looks := false }, kinds := [], alts := [], laidByText := true, laidKinds := [.data, .data], laidTests := true, laidLooks := .later }
def ShaOwnUptoCardSaid : Prop := Claim7.holds Tryd.pinned (.plain (OpenSpec.upto shaOwnSpec)) shaOwnUptoCard

/-- THE SECOND FORM's CARD OF 'signetringlaw03.ShaLong'. -/
def shaLongUptoCard : Claim7 := { stood := { row := shaLongUptoRow, standIns := [], harness := (true, "2da0f5dd4f1eaf67b4a5011aec12f871ec5da044094c3f8e8c7dde4c58860a7f"), looks := false }, kinds := [], alts := [], laidByText := true, laidKinds := [.data, .data], laidTests := true, laidLooks := .later }
def ShaLongUptoCardSaid : Prop := Claim7.holds Tryd.pinned (.plain (OpenSpec.upto shaLongSpec)) shaLongUptoCard

/-- THE SECOND FORM's CARD OF 'signetringlaw03.ShaValues'. -/
def shaValuesUptoCard : Claim7 := { stood := { row := shaValuesUptoRow, standIns := [], harness := (true, "2da0f5dd4f1eaf67b4a5011aec12f871ec5da044094c3f8e8c7dde4c58860a7f"), looks := false }, kinds := [], alts := [], laidByText := true, laidKinds := [.data, .data], laidTests := true, laidLooks := .later }
def ShaValuesUptoCardSaid : Prop := Claim7.holds Tryd.pinned (.plain (OpenSpec.upto shaValuesSpec)) shaValuesUptoCard

/-- THE SECOND FORM's CARD OF 'signetringlaw04.MacTells'. -/
def macTellsUptoCard : Claim7 := { stood := { row := macTellsUptoRow, standIns := [], harness := (true, "2da0f5dd4f1eaf67b4a5011aec12f871ec5da044094c3f8e8c7dde4c58860a7f"), looks := false }, kinds := [], alts := [], laidByText := true, laidKinds := [.data, .data], laidTests := true, laidLooks := .later }
def MacTellsUptoCardSaid : Prop := Claim7.holds Tryd.pinned (.plain (OpenSpec.upto macTellsSpec)) macTellsUptoCard

/-- THE SECOND FORM's CARD OF 'signetringlaw04.MacExpands'. -/
def macExpandsUptoCard : Claim7 := { stood := { row := macExpandsUptoRow, standIns := [], harness := (true, "2da0f5dd4f1eaf67b4a5011aec12f871ec5da044094c3f8e8c7dde4c58860a7f"), looks := false }, kinds := [], alts := [], laidByText := true, laidKinds := [.data, .data], laidTests := true, laidLooks := .later }
def MacExpandsUptoCardSaid : Prop := Claim7.holds Tryd.pinned (.plain (OpenSpec.upto macExpandsSpec)) macExpandsUptoCard

/-- THE SECOND FORM's CARD OF 'signetringlaw04.MacBeginnings'. -/
def macBeginningsUptoCard : Claim7 := { stood := { row := macBeginningsUptoRow, standIns := [], harness := (true, "2da0f5dd4f1eaf67b4a5011aec12f871ec5da044094c3f8e8c7dde4c58860a7f"), looks := false }, kinds := [], alts := [], laidByText := true, laidKinds := [.data, .data], laidTests := true, laidLooks := .later }
def MacBeginningsUptoCardSaid : Prop := Claim7.holds Tryd.pinned (.plain (OpenSpec.upto macBeginningsSpec)) macBeginningsUptoCard

/-- THE SECOND FORM's CARD OF 'signetringlaw04.MacFilled'. -/
def macFilledUptoCard : Claim7 := { stood := { row := macFilledUptoRow, standIns := [], harness := (true, "2da0f5dd4f1eaf67b4a5011aec12f871ec5da044094c3f8e8c7dde4c58860a7f"), looks := false }, kinds := [], alts := [], laidByText := true, laidKinds := [.data, .data], laidTests := true, laidLooks := .later }
def MacFilledUptoCardSaid : Prop := Claim7.holds Tryd.pinned (.plain (OpenSpec.upto macFilledSpec)) macFilledUptoCard

/-- THE SECOND FORM's CARD OF 'signetringlaw04.MacLong'. -/
def macLongUptoCard : Claim7 := { stood := { row := macLongUptoRow, standIns := [], harness := (true, "2da0f5dd4f1eaf67b4a5011aec12f871ec5da044094c3f8e8c7dde4c58860a7f"), looks := false }, kinds := [], alts := [], laidByText := true, laidKinds := [.data, .data], laidTests := true, laidLooks := .later }
def MacLongUptoCardSaid : Prop := Claim7.holds Tryd.pinned (.plain (OpenSpec.upto macLongSpec)) macLongUptoCard

/-- THE SECOND FORM's CARD OF 'signetringlaw04.MacPieces'. -/
def macPiecesUptoCard : Claim7 := { stood := { row := macPiecesUptoRow, standIns := [], harness := (true, "2da0f5dd4f1eaf67b4a5011aec12f871ec5da044094c3f8e8c7dde4c58860a7f"), looks := false }, kinds := [], alts := [], laidByText := true, laidKinds := [.data, .data], laidTests := true, laidLooks := .later }
def MacPiecesUptoCardSaid : Prop := Claim7.holds Tryd.pinned (.plain (OpenSpec.upto macPiecesSpec)) macPiecesUptoCard

/-- THE SECOND FORM's CARD OF 'signetringlaw04.MacKeys'. -/
def macKeysUptoCard : Claim7 := { stood := { row := macKeysUptoRow, standIns := [], harness := (true, "2da0f5dd4f1eaf67b4a5011aec12f871ec5da044094c3f8e8c7dde4c58860a7f"), looks := false }, kinds := [], alts := [], laidByText := true, laidKinds := [.data, .data], laidTests := true, laidLooks := .later }
def MacKeysUptoCardSaid : Prop := Claim7.holds Tryd.pinned (.plain (OpenSpec.upto macKeysSpec)) macKeysUptoCard
end Rows
end Go.Proofs.YtageadccfdbmjaaDoor
