/-
  DERIVED. GIVEN WITH THE SEED: THE CARDS: each row of YtcjmbeikjinedaaDoorRows.lean that lists a variable, with what it lists TIED to the program's text (the seventh form; the later family's looks); each row that meets fmt, with fmt's text TOLD by the authors' own Lean function (tested against real Go, not proved from fmt's source: count such statements apart). THE CARD IS WHAT COUNTS. Prove the row's statement (the work); the ties are given (YtcjmbeikjinedaaDoorTie.lean); close each card by the builder's one call (the guide's Derived/Test/ToyasCard.lean, 'card_holds'). Laid BY PROGRAM, IN A SANDBOX (cutbox-door.mjs). By AI agents, Wed Nov 11 2026. No macro, syntax, notation, axiom, sorry.
-/
import Derived.Test.YtcjmbeikjinedaaDoorRows
import GoSem.ClaimSeven
namespace Go.Proofs.YtcjmbeikjinedaaDoor
namespace Rows

/-- THE TIED CARD OF 'signetringlaw05.StreamTells'. -/
def streamTellsCard : Claim7 := { stood := { row := streamTellsRow, standIns := [], harness := (true, "b20c8361cc202ef41cb56edc677fe15da5d0f45470000d9b2df6ff2b32472bf2"), looks := false }, kinds := [], alts := [], laidByText := true, laidKinds := [.widerDeep], laidTests := true, laidLooks := .later }
def StreamTellsCardSaid : Prop := Claim7.holds Tryd.pinned (.plain (OpenSpec.ofChange streamTellsSpec)) streamTellsCard

/-- THE TIED CARD OF 'signetringlaw05.StreamBack'. -/
def streamBackCard : Claim7 := { stood := { row := streamBackRow, standIns := [], harness := (true, "b20c8361cc202ef41cb56edc677fe15da5d0f45470000d9b2df6ff2b32472bf2"), looks := false }, kinds := [], alts := [], laidByText := true, laidKinds := [.widerDeep], laidTests := true, laidLooks := .later }
def StreamBackCardSaid : Prop := Claim7.holds Tryd.pinned (.plain (OpenSpec.ofChange streamBackSpec)) streamBackCard

/-- THE TIED CARD OF 'signetringlaw05.StreamSums'. -/
def streamSumsCard : Claim7 := { stood := { row := streamSumsRow, standIns := [], harness := (true, "b20c8361cc202ef41cb56edc677fe15da5d0f45470000d9b2df6ff2b32472bf2"), looks := false }, kinds := [], alts := [], laidByText := true, laidKinds := [.widerDeep], laidTests := true, laidLooks := .later }
def StreamSumsCardSaid : Prop := Claim7.holds Tryd.pinned (.plain (OpenSpec.ofChange streamSumsSpec)) streamSumsCard

/-- THE TIED CARD OF 'signetringlaw05.StreamEnd'. -/
def streamEndCard : Claim7 := { stood := { row := streamEndRow, standIns := [], harness := (true, "b20c8361cc202ef41cb56edc677fe15da5d0f45470000d9b2df6ff2b32472bf2"), looks := false }, kinds := [], alts := [], laidByText := true, laidKinds := [.widerDeep], laidTests := true, laidLooks := .later }
def StreamEndCardSaid : Prop := Claim7.holds Tryd.pinned (.plain (OpenSpec.ofChange streamEndSpec)) streamEndCard

/-- THE TIED CARD OF 'signetringlaw05.StreamBlocks'. -/
def streamBlocksCard : Claim7 := { stood := { row := streamBlocksRow, standIns := [], harness := (true, "b20c8361cc202ef41cb56edc677fe15da5d0f45470000d9b2df6ff2b32472bf2"), looks := false }, kinds := [], alts := [], laidByText := true, laidKinds := [.widerDeep], laidTests := true, laidLooks := .later }
def StreamBlocksCardSaid : Prop := Claim7.holds Tryd.pinned (.plain (OpenSpec.ofChange streamBlocksSpec)) streamBlocksCard

/-- THE SECOND FORM's CARD OF 'signetringlaw05.StreamTells'. -/
def streamTellsUptoCard : Claim7 := { stood := { row := streamTellsUptoRow, standIns := [], harness := (true, "b20c8361cc202ef41cb56edc677fe15da5d0f45470000d9b2df6ff2b32472bf2"), looks := false }, kinds := [], alts := [], laidByText := true, laidKinds := [.widerDeep], laidTests := true, laidLooks := .later }
def StreamTellsUptoCardSaid : Prop := Claim7.holds Tryd.pinned (.plain (OpenSpec.upto streamTellsSpec)) streamTellsUptoCard

/-- THE SECOND FORM's CARD OF 'signetringlaw05.StreamBack'. -/
def streamBackUptoCard : Claim7 := { stood := { row := streamBackUptoRow, standIns := [], harness := (true, "b20c8361cc202ef41cb56edc677fe15da5d0f45470000d9b2df6ff2b32472bf2"), looks := false }, kinds := [], alts := [], laidByText := true, laidKinds := [.widerDeep], laidTests := true, laidLooks := .later }
def StreamBackUptoCardSaid : Prop := Claim7.holds Tryd.pinned (.plain (OpenSpec.upto streamBackSpec)) streamBackUptoCard

/-- THE SECOND FORM's CARD OF 'signetringlaw05.StreamSums'. -/
def streamSumsUptoCard : Claim7 := { stood := { row := streamSumsUptoRow, standIns := [], harness := (true, "b20c8361cc202ef41cb56edc677fe15da5d0f45470000d9b2df6ff2b32472bf2"), looks := false }, kinds := [], alts := [], laidByText := true, laidKinds := [.widerDeep], laidTests := true, laidLooks := .later }
def StreamSumsUptoCardSaid : Prop := Claim7.holds Tryd.pinned (.plain (OpenSpec.upto streamSumsSpec)) streamSumsUptoCard

/-- THE SECOND FORM's CARD OF 'signetringlaw05.StreamEnd'. -/
def streamEndUptoCard : Claim7 := { stood := { row := streamEndUptoRow, standIns := [], harness := (true, "b20c8361cc202ef41cb56edc677fe15da5d0f45470000d9b2df6ff2b32472bf2"), looks := false }, kinds := [], alts := [], laidByText := true, laidKinds := [.widerDeep], laidTests := true, laidLooks := .later }
def StreamEndUptoCardSaid : Prop := Claim7.holds Tryd.pinned (.plain (OpenSpec.upto streamEndSpec)) streamEndUptoCard

/-- THE SECOND FORM's CARD OF 'signetringlaw05.StreamBlocks'. -/
def streamBlocksUptoCard : Claim7 := { stood := { row := streamBlocksUptoRow, standIns := [], harness := (true, "b20c8361cc202ef41cb56edc677fe15da5d0f45470000d9b2df6ff2b32472bf2"), looks := false }, kinds := [], alts := [], laidByText := true, laidKinds := [.widerDeep], laidTests := true, laidLooks := .later }
def StreamBlocksUptoCardSaid : Prop := Claim7.holds Tryd.pinned (.plain (OpenSpec.upto streamBlocksSpec)) streamBlocksUptoCard
end Rows
end Go.Proofs.YtcjmbeikjinedaaDoor
