/-
  NARROWER THAN 'FOR EVERY INPUT', by the rows' own cells (each row's printed sentence says how): AeadTells: laid · AeadBack: laid · AeadStream: laid · AeadBig: laid · AeadEmpty: laid.
  DERIVED. THE GIVEN ROWS OF THIS SEAT. 5 by the template 'for every input the law returns true; each argument reads behind the call as it read before'; 0 by the template 'total and deterministic' (their statements: YtakgcmponelbeaaDoorTotals.lean).
  GIVEN WITH THE SEED: the statements are not yours to turn. If you find one false, say at which input.
  Laid BY PROGRAM, IN A SANDBOX (cutbox-rows.mjs): the forced cells as the released guide's own fill.sh prints them over the translation d5f1a4197bd36084… (all of the seat's roots in one cut). By AI agents, Wed Nov 11 2026. No macro, syntax, notation, axiom, sorry.
-/
import Derived.Test.YtakgcmponelbeaaDoorChecked
import GoSem.Claim
import GoSem.ClaimJoined
import GoSem.ClaimMapViews
import Derived.JoinedTies
import Derived.KernelRfl
namespace Go.Proofs.YtakgcmponelbeaaDoor
/- THE CELL 'sum', in the pinned program and in every row, IS THE sha256 OF THE DUMP (.gsa) THAT YtakgcmponelbeaaDoorProg.lean LOADS. Nothing in Lean hashes anything: it is a label: what it is worth is what the hold of that sum in a sandbox is worth. -/
noncomputable def Tryd.pinned : Pinned := { name := "ytakgcmponelbeaadoor", sum := "d5f1a4197bd360846953acffd0ad6433a96c3625116dddd1fc8799bbbe730cbf", checked := Tryd.checked }
namespace Rows
def none {H : Type} : Left H := { results := [], args := [] }

/- WHAT THE LISTED PACKAGE-LEVEL VARIABLES READ AS WHEN THE CALL BEGINS. Each datum BY PROGRAM (the guide's laid-datum.mjs) off the statement by which the dump's own 'gosem.cut.vars' lays the variable. In a bare row this is a premise. The card (YtakgcmponelbeaaDoorCards.lean) ties it to the program's text. -/
def laid_signetring_stream_first {H : Type} : DataW H := .agg [.lit (.int .u32 1634760805), .lit (.int .u32 857760878), .lit (.int .u32 2036477234), .lit (.int .u32 1797285236)]

/-- 'signetringlaw07.AeadTells': WHATEVER THE INPUT: true; the input reads as it did. -/
def aeadTellsSpec : ChangeSpec := { name := "aeadTells", fn := fun _ => fun
  | [d1, d2] => { results := [.lit (.bool true)], args := [d1, d2] }
  | _ => none }
def aeadTellsRow : OpenClaim := { program := "ytakgcmponelbeaadoor", sum := "d5f1a4197bd360846953acffd0ad6433a96c3625116dddd1fc8799bbbe730cbf", func := "signetring/signetringlaw07.AeadTells", spec := "aeadTells", inPlace := ["math/bits.Add64"], named := ["signetring/stream.first"], apart := false, laid := [("signetring/stream.first", laid_signetring_stream_first)] }
def AeadTellsSaid : Prop := aeadTellsRow.holds Tryd.pinned (OpenSpec.ofChange aeadTellsSpec)

/-- ITS FALSE NEIGHBOUR: 'it returns false'. Refute it at one input. -/
def aeadTellsWrong : ChangeSpec := { name := "aeadTells", fn := fun _ => fun
  | [d1, d2] => { results := [.lit (.bool false)], args := [d1, d2] }
  | _ => none }
def AeadTellsWrongFalsely : Prop := aeadTellsRow.holds Tryd.pinned (OpenSpec.ofChange aeadTellsWrong)

/-- 'signetringlaw07.AeadBack': WHATEVER THE INPUT: true; the input reads as it did. -/
def aeadBackSpec : ChangeSpec := { name := "aeadBack", fn := fun _ => fun
  | [d1, d2, d3] => { results := [.lit (.bool true)], args := [d1, d2, d3] }
  | _ => none }
def aeadBackRow : OpenClaim := { program := "ytakgcmponelbeaadoor", sum := "d5f1a4197bd360846953acffd0ad6433a96c3625116dddd1fc8799bbbe730cbf", func := "signetring/signetringlaw07.AeadBack", spec := "aeadBack", inPlace := ["math/bits.Add64"], named := ["signetring/stream.first"], apart := false, laid := [("signetring/stream.first", laid_signetring_stream_first)] }
def AeadBackSaid : Prop := aeadBackRow.holds Tryd.pinned (OpenSpec.ofChange aeadBackSpec)

/-- ITS FALSE NEIGHBOUR: 'it returns false'. Refute it at one input. -/
def aeadBackWrong : ChangeSpec := { name := "aeadBack", fn := fun _ => fun
  | [d1, d2, d3] => { results := [.lit (.bool false)], args := [d1, d2, d3] }
  | _ => none }
def AeadBackWrongFalsely : Prop := aeadBackRow.holds Tryd.pinned (OpenSpec.ofChange aeadBackWrong)

/-- 'signetringlaw07.AeadStream': WHATEVER THE INPUT: true; the input reads as it did. -/
def aeadStreamSpec : ChangeSpec := { name := "aeadStream", fn := fun _ => fun
  | [d1, d2, d3] => { results := [.lit (.bool true)], args := [d1, d2, d3] }
  | _ => none }
def aeadStreamRow : OpenClaim := { program := "ytakgcmponelbeaadoor", sum := "d5f1a4197bd360846953acffd0ad6433a96c3625116dddd1fc8799bbbe730cbf", func := "signetring/signetringlaw07.AeadStream", spec := "aeadStream", inPlace := ["math/bits.Add64"], named := ["signetring/stream.first"], apart := false, laid := [("signetring/stream.first", laid_signetring_stream_first)] }
def AeadStreamSaid : Prop := aeadStreamRow.holds Tryd.pinned (OpenSpec.ofChange aeadStreamSpec)

/-- ITS FALSE NEIGHBOUR: 'it returns false'. Refute it at one input. -/
def aeadStreamWrong : ChangeSpec := { name := "aeadStream", fn := fun _ => fun
  | [d1, d2, d3] => { results := [.lit (.bool false)], args := [d1, d2, d3] }
  | _ => none }
def AeadStreamWrongFalsely : Prop := aeadStreamRow.holds Tryd.pinned (OpenSpec.ofChange aeadStreamWrong)

/-- 'signetringlaw07.AeadBig': WHATEVER THE INPUT: true; the input reads as it did. -/
def aeadBigSpec : ChangeSpec := { name := "aeadBig", fn := fun _ => fun
  | [d1, d2] => { results := [.lit (.bool true)], args := [d1, d2] }
  | _ => none }
def aeadBigRow : OpenClaim := { program := "ytakgcmponelbeaadoor", sum := "d5f1a4197bd360846953acffd0ad6433a96c3625116dddd1fc8799bbbe730cbf", func := "signetring/signetringlaw07.AeadBig", spec := "aeadBig", inPlace := ["math/bits.Add64"], named := ["signetring/stream.first"], apart := false, laid := [("signetring/stream.first", laid_signetring_stream_first)] }
def AeadBigSaid : Prop := aeadBigRow.holds Tryd.pinned (OpenSpec.ofChange aeadBigSpec)

/-- ITS FALSE NEIGHBOUR: 'it returns false'. Refute it at one input. -/
def aeadBigWrong : ChangeSpec := { name := "aeadBig", fn := fun _ => fun
  | [d1, d2] => { results := [.lit (.bool false)], args := [d1, d2] }
  | _ => none }
def AeadBigWrongFalsely : Prop := aeadBigRow.holds Tryd.pinned (OpenSpec.ofChange aeadBigWrong)

/-- 'signetringlaw07.AeadEmpty': WHATEVER THE INPUT: true; the input reads as it did. -/
def aeadEmptySpec : ChangeSpec := { name := "aeadEmpty", fn := fun _ => fun
  | [d] => { results := [.lit (.bool true)], args := [d] }
  | _ => none }
def aeadEmptyRow : OpenClaim := { program := "ytakgcmponelbeaadoor", sum := "d5f1a4197bd360846953acffd0ad6433a96c3625116dddd1fc8799bbbe730cbf", func := "signetring/signetringlaw07.AeadEmpty", spec := "aeadEmpty", inPlace := ["math/bits.Add64"], named := ["signetring/stream.first"], apart := false, laid := [("signetring/stream.first", laid_signetring_stream_first)] }
def AeadEmptySaid : Prop := aeadEmptyRow.holds Tryd.pinned (OpenSpec.ofChange aeadEmptySpec)

/-- ITS FALSE NEIGHBOUR: 'it returns false'. Refute it at one input. -/
def aeadEmptyWrong : ChangeSpec := { name := "aeadEmpty", fn := fun _ => fun
  | [d] => { results := [.lit (.bool false)], args := [d] }
  | _ => none }
def AeadEmptyWrongFalsely : Prop := aeadEmptyRow.holds Tryd.pinned (OpenSpec.ofChange aeadEmptyWrong)

/- THE SECOND FORM. 'bulk': how many values and letters a reading holds, each counted each time it is reached (what is shared counts as often as it is met; a slice's spare places count too). A statement '..UptoSaid' is the law's where the arguments, and the package variables that the reading takes, are together of bulk at most 1048576: NARROWER than '..Said'. Prove '..Said' where nothing that the law and all that it calls make is longer than what came in: it says more and counts as full. Else prove '..UptoSaid'. A law counts once. -/
mutual
def uptoBulk {H : Type} : DataW H → Nat
  | .lit (.string bytes) => bytes.length + 1
  | .lit _ => 1
  | .nil => 1
  | .ptr d => uptoBulk d + 1
  | .slice elems spare => uptoBulkAll elems + uptoBulkAll spare + 1
  | .agg parts => uptoBulkAll parts + 1
  | .iface _ d => uptoBulk d + 1
  | .map entries => uptoBulkEntries entries + 1
  | .held _ => 1
def uptoBulkAll {H : Type} : List (DataW H) → Nat
  | [] => 0
  | d :: r => uptoBulk d + uptoBulkAll r
def uptoBulkEntries {H : Type} : List (Lit × DataW H) → Nat
  | [] => 0
  | x :: r => uptoBulkEntry x + uptoBulkEntries r
def uptoBulkEntry {H : Type} : Lit × DataW H → Nat
  | (.string bytes, d) => bytes.length + uptoBulk d + 1
  | (_, d) => uptoBulk d + 1
 end
def uptoSmall : (H : Type) → List (DataW H) → Bool := fun _ ds => decide (uptoBulkAll ds ≤ 1048576)
def OpenSpec.upto (s : _root_.Go.ChangeSpec) : _root_.Go.OpenSpec := { _root_.Go.OpenSpec.ofChange s with cond := some uptoSmall }

/-- 'signetringlaw07.AeadTells', WHERE WHAT IT READS IS OF BULK AT MOST 1048576: true; the input reads as it did. -/
def aeadTellsUptoRow : OpenClaim := { program := "ytakgcmponelbeaadoor", sum := "d5f1a4197bd360846953acffd0ad6433a96c3625116dddd1fc8799bbbe730cbf", func := "signetring/signetringlaw07.AeadTells", spec := "aeadTells", inPlace := ["math/bits.Add64"], named := ["signetring/stream.first"], apart := false, laid := [("signetring/stream.first", laid_signetring_stream_first)], narrowed := true }
def AeadTellsUptoSaid : Prop := aeadTellsUptoRow.holds Tryd.pinned (OpenSpec.upto aeadTellsSpec)

/-- 'signetringlaw07.AeadBack', WHERE WHAT IT READS IS OF BULK AT MOST 1048576: true; the input reads as it did. -/
def aeadBackUptoRow : OpenClaim := { program := "ytakgcmponelbeaadoor", sum := "d5f1a4197bd360846953acffd0ad6433a96c3625116dddd1fc8799bbbe730cbf", func := "signetring/signetringlaw07.AeadBack", spec := "aeadBack", inPlace := ["math/bits.Add64"], named := ["signetring/stream.first"], apart := false, laid := [("signetring/stream.first", laid_signetring_stream_first)], narrowed := true }
def AeadBackUptoSaid : Prop := aeadBackUptoRow.holds Tryd.pinned (OpenSpec.upto aeadBackSpec)

/-- 'signetringlaw07.AeadStream', WHERE WHAT IT READS IS OF BULK AT MOST 1048576: true; the input reads as it did. -/
def aeadStreamUptoRow : OpenClaim := { program := "ytakgcmponelbeaadoor", sum := "d5f1a4197bd360846953acffd0ad6433a96c3625116dddd1fc8799bbbe730cbf", func := "signetring/signetringlaw07.AeadStream", spec := "aeadStream", inPlace := ["math/bits.Add64"], named := ["signetring/stream.first"], apart := false, laid := [("signetring/stream.first", laid_signetring_stream_first)], narrowed := true }
def AeadStreamUptoSaid : Prop := aeadStreamUptoRow.holds Tryd.pinned (OpenSpec.upto aeadStreamSpec)

/-- 'signetringlaw07.AeadBig', WHERE WHAT IT READS IS OF BULK AT MOST 1048576: true; the input reads as it did. -/
def aeadBigUptoRow : OpenClaim := { program := "ytakgcmponelbeaadoor", sum := "d5f1a4197bd360846953acffd0ad6433a96c3625116dddd1fc8799bbbe730cbf", func := "signetring/signetringlaw07.AeadBig", spec := "aeadBig", inPlace := ["math/bits.Add64"], named := ["signetring/stream.first"], apart := false, laid := [("signetring/stream.first", laid_signetring_stream_first)], narrowed := true }
def AeadBigUptoSaid : Prop := aeadBigUptoRow.holds Tryd.pinned (OpenSpec.upto aeadBigSpec)

/-- 'signetringlaw07.AeadEmpty', WHERE WHAT IT READS IS OF BULK AT MOST 1048576: true; the input reads as it did. -/
def aeadEmptyUptoRow : OpenClaim := { program := "ytakgcmponelbeaadoor", sum := "d5f1a4197bd360846953acffd0ad6433a96c3625116dddd1fc8799bbbe730cbf", func := "signetring/signetringlaw07.AeadEmpty", spec := "aeadEmpty", inPlace := ["math/bits.Add64"], named := ["signetring/stream.first"], apart := false, laid := [("signetring/stream.first", laid_signetring_stream_first)], narrowed := true }
def AeadEmptyUptoSaid : Prop := aeadEmptyUptoRow.holds Tryd.pinned (OpenSpec.upto aeadEmptySpec)

end Rows
end Go.Proofs.YtakgcmponelbeaaDoor
