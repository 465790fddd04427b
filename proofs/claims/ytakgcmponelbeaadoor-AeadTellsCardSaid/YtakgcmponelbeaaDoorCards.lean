/-
  DERIVED. GIVEN WITH THE SEED: THE CARDS: each row of YtakgcmponelbeaaDoorRows.lean that lists a variable, with what it lists TIED to the program's text (the seventh form; the later family's looks); each row that meets fmt, with fmt's text TOLD by the authors' own Lean function (tested against real Go, not proved from fmt's source: count such statements apart). THE CARD IS WHAT COUNTS. Prove the row's statement (the work); the ties are given (YtakgcmponelbeaaDoorTie.lean); close each card by the builder's one call (the guide's Derived/Test/ToyasCard.lean, 'card_holds'). Laid BY PROGRAM, IN A SANDBOX (cutbox-door.mjs). By AI agents, Wed Nov 11 2026. No macro, syntax, notation, axiom, sorry.
-/
import Derived.Test.YtakgcmponelbeaaDoorRows
import GoSem.ClaimSeven
namespace Go.Proofs.YtakgcmponelbeaaDoor
namespace Rows

/-- THE TIED CARD OF 'signetringlaw07.AeadTells'. -/
def aeadTellsCard : Claim7 := { stood := { row := aeadTellsRow, standIns := [], harness := (true, "671248a5d49bb8ff82140ea5a65fbe0d7433cd7cbe34c0dcc06b8651e5cbfb3b"), looks := false }, kinds := [], alts := [], laidByText := true, laidKinds := [.widerDeep], laidTests := true, laidLooks := .later }
def AeadTellsCardSaid : Prop := Claim7.holds Tryd.pinned (.plain (OpenSpec.ofChange aeadTellsSpec)) aeadTellsCard

/-- THE TIED CARD OF 'signetringlaw07.AeadBack'. -/
def aeadBackCard : Claim7 := { stood := { row := aeadBackRow, standIns := [], harness := (true, "671248a5d49bb8ff82140ea5a65fbe0d7433cd7cbe34c0dcc06b8651e5cbfb3b"), looks := false }, kinds := [], alts := [], laidByText := true, laidKinds := [.widerDeep], laidTests := true, laidLooks := .later }
def AeadBackCardSaid : Prop := Claim7.holds Tryd.pinned (.plain (OpenSpec.ofChange aeadBackSpec)) aeadBackCard

/-- THE TIED CARD OF 'signetringlaw07.AeadStream'. -/
def aeadStreamCard : Claim7 := { stood := { row := aeadStreamRow, standIns := [], harness := (true, "671248a5d49bb8ff82140ea5a65fbe0d7433cd7cbe34c0dcc06b8651e5cbfb3b"), looks := false }, kinds := [], alts := [], laidByText := true, laidKinds := [.widerDeep], laidTests := true, laidLooks := .later }
def AeadStreamCardSaid : Prop := Claim7.holds Tryd.pinned (.plain (OpenSpec.ofChange aeadStreamSpec)) aeadStreamCard

/-- THE TIED CARD OF 'signetringlaw07.AeadBig'. -/
def aeadBigCard : Claim7 := { stood := { row := aeadBigRow, standIns := [], harness := (true, "671248a5d49bb8ff82140ea5a65fbe0d7433cd7cbe34c0dcc06b8651e5cbfb3b"), looks := false }, kinds := [], alts := [], laidByText := true, laidKinds := [.widerDeep], laidTests := true, laidLooks := .later }
def AeadBigCardSaid : Prop := Claim7.holds Tryd.pinned (.plain (OpenSpec.ofChange aeadBigSpec)) aeadBigCard

/-- THE TIED CARD OF 'signetringlaw07.AeadEmpty'. -/
def aeadEmptyCard : Claim7 := { stood := { row := aeadEmptyRow, standIns := [], harness := (true, "671248a5d49bb8ff82140ea5a65fbe0d7433cd7cbe34c0dcc06b8651e5cbfb3b"), looks := false }, kinds := [], alts := [], laidByText := true, laidKinds := [.widerDeep], laidTests := true, laidLooks := .later }
def AeadEmptyCardSaid : Prop := Claim7.holds Tryd.pinned (.plain (OpenSpec.ofChange aeadEmptySpec)) aeadEmptyCard

/-- THE SECOND FORM's CARD OF 'signetringlaw07.AeadTells'. -/
def aeadTellsUptoCard : Claim7 := { stood := { row := aeadTellsUptoRow, standIns := [], harness := (true, "671248a5d49bb8ff82140ea5a65fbe0d7433cd7cbe34c0dcc06b8651e5cbfb3b"), looks := false }, kinds := [], alts := [], laidByText := true, laidKinds := [.widerDeep], laidTests := true, laidLooks := .later }
def AeadTellsUptoCardSaid : Prop := Claim7.holds Tryd.pinned (.plain (OpenSpec.upto aeadTellsSpec)) aeadTellsUptoCard

/-- THE SECOND FORM's CARD OF 'signetringlaw07.AeadBack'. -/
def aeadBackUptoCard : Claim7 := { stood := { row := aeadBackUptoRow, standIns := [], harness := (true, "671248a5d49bb8ff82140ea5a65fbe0d7433cd7cbe34c0dcc06b8651e5cbfb3b"), looks := false }, kinds := [], alts := [], laidByText := true, laidKinds := [.widerDeep], laidTests := true, laidLooks := .later }
def AeadBackUptoCardSaid : Prop := Claim7.holds Tryd.pinned (.plain (OpenSpec.upto aeadBackSpec)) aeadBackUptoCard

/-- THE SECOND FORM's CARD OF 'signetringlaw07.AeadStream'. -/
def aeadStreamUptoCard : Claim7 := { stood := { row := aeadStreamUptoRow, standIns := [], harness := (true, "671248a5d49bb8ff82140ea5a65fbe0d7433cd7cbe34c0dcc06b8651e5cbfb3b"), looks := false }, kinds := [], alts := [], laidByText := true, laidKinds := [.widerDeep], laidTests := true, laidLooks := .later }
def AeadStreamUptoCardSaid : Prop := Claim7.holds Tryd.pinned (.plain (OpenSpec.upto aeadStreamSpec)) aeadStreamUptoCard

/-- THE SECOND FORM's CARD OF 'signetringlaw07.AeadBig'. -/
def aeadBigUptoCard : Claim7 := { stood := { row := aeadBigUptoRow, standIns := [], harness := (true, "671248a5d49bb8ff82140ea5a65fbe0d7433cd7cbe34c0dcc06b8651e5cbfb3b"), looks := false }, kinds := [], alts := [], laidByText := true, laidKinds := [.widerDeep], laidTests := true, laidLooks := .later }
def AeadBigUptoCardSaid : Prop := Claim7.holds Tryd.pinned (.plain (OpenSpec.upto aeadBigSpec)) aeadBigUptoCard

/-- THE SECOND FORM's CARD OF 'signetringlaw07.AeadEmpty'. -/
def aeadEmptyUptoCard : Claim7 := { stood := { row := aeadEmptyUptoRow, standIns := [], harness := (true, "671248a5d49bb8ff82140ea5a65fbe0d7433cd7cbe34c0dcc06b8651e5cbfb3b"), looks := false }, kinds := [], alts := [], laidByText := true, laidKinds := [.widerDeep], laidTests := true, laidLooks := .later }
def AeadEmptyUptoCardSaid : Prop := Claim7.holds Tryd.pinned (.plain (OpenSpec.upto aeadEmptySpec)) aeadEmptyUptoCard
end Rows
end Go.Proofs.YtakgcmponelbeaaDoor
