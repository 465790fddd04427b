/-
  NARROWER THAN 'FOR EVERY INPUT', by the rows' own cells (each row's printed sentence says how): StreamTells: laid · StreamBack: laid · StreamSums: laid · StreamEnd: laid · StreamBlocks: laid.
  DERIVED. THE GIVEN ROWS OF THIS SEAT. 5 by the template 'for every input the law returns true; each argument reads behind the call as it read before'; 0 by the template 'total and deterministic' (their statements: YtcjmbeikjinedaaDoorTotals.lean).
  GIVEN WITH THE SEED: the statements are not yours to turn. If you find one false, say at which input.
  Laid BY PROGRAM, IN A SANDBOX (cutbox-rows.mjs): the forced cells as the released guide's own fill.sh prints them over the translation f88ba2ea2d1b4268… (all of the seat's roots in one cut). By AI agents, Wed Nov 11 2026. No macro, syntax, notation, axiom, sorry.
-/
import Derived.Test.YtcjmbeikjinedaaDoorChecked
import GoSem.Claim
import GoSem.ClaimJoined
import GoSem.ClaimMapViews
import Derived.JoinedTies
import Derived.KernelRfl
namespace Go.Proofs.YtcjmbeikjinedaaDoor
/- THE CELL 'sum', in the pinned program and in every row, IS THE sha256 OF THE DUMP (.gsa) THAT YtcjmbeikjinedaaDoorProg.lean LOADS. Nothing in Lean hashes anything: it is a label: what it is worth is what the hold of that sum in a sandbox is worth. -/
noncomputable def Tryd.pinned : Pinned := { name := "ytcjmbeikjinedaadoor", sum := "f88ba2ea2d1b4268db5e5ac2dddee58e8f821e00c4d63585752c67a5dd29eb23", checked := Tryd.checked }
namespace Rows
def none {H : Type} : Left H := { results := [], args := [] }

/- WHAT THE LISTED PACKAGE-LEVEL VARIABLES READ AS WHEN THE CALL BEGINS. Each datum BY PROGRAM (the guide's laid-datum.mjs) off the statement by which the dump's own 'gosem.cut.vars' lays the variable. In a bare row this is a premise. The card (YtcjmbeikjinedaaDoorCards.lean) ties it to the program's text. -/
def laid_signetring_stream_first {H : Type} : DataW H := .agg [.lit (.int .u32 1634760805), .lit (.int .u32 857760878), .lit (.int .u32 2036477234), .lit (.int .u32 1797285236)]

/-- 'signetringlaw05.StreamTells': WHATEVER THE INPUT: true; the input reads as it did. -/
def streamTellsSpec : ChangeSpec := { name := "streamTells", fn := fun _ => fun
  | [d1, d2] => { results := [.lit (.bool true)], args := [d1, d2] }
  | _ => none }
def streamTellsRow : OpenClaim := { program := "ytcjmbeikjinedaadoor", sum := "f88ba2ea2d1b4268db5e5ac2dddee58e8f821e00c4d63585752c67a5dd29eb23", func := "signetring/signetringlaw05.StreamTells", spec := "streamTells", named := ["signetring/stream.first"], apart := false, laid := [("signetring/stream.first", laid_signetring_stream_first)] }
def StreamTellsSaid : Prop := streamTellsRow.holds Tryd.pinned (OpenSpec.ofChange streamTellsSpec)

/-- ITS FALSE NEIGHBOUR: 'it returns false'. Refute it at one input. -/
def streamTellsWrong : ChangeSpec := { name := "streamTells", fn := fun _ => fun
  | [d1, d2] => { results := [.lit (.bool false)], args := [d1, d2] }
  | _ => none }
def StreamTellsWrongFalsely : Prop := streamTellsRow.holds Tryd.pinned (OpenSpec.ofChange streamTellsWrong)

/-- 'signetringlaw05.StreamBack': WHATEVER THE INPUT: true; the input reads as it did. -/
def streamBackSpec : ChangeSpec := { name := "streamBack", fn := fun _ => fun
  | [d1, d2, d3] => { results := [.lit (.bool true)], args := [d1, d2, d3] }
  | _ => none }
def streamBackRow : OpenClaim := { program := "ytcjmbeikjinedaadoor", sum := "f88ba2ea2d1b4268db5e5ac2dddee58e8f821e00c4d63585752c67a5dd29eb23", func := "signetring/signetringlaw05.StreamBack", spec := "streamBack", named := ["signetring/stream.first"], apart := false, laid := [("signetring/stream.first", laid_signetring_stream_first)] }
def StreamBackSaid : Prop := streamBackRow.holds Tryd.pinned (OpenSpec.ofChange streamBackSpec)

/-- ITS FALSE NEIGHBOUR: 'it returns false'. Refute it at one input. -/
def streamBackWrong : ChangeSpec := { name := "streamBack", fn := fun _ => fun
  | [d1, d2, d3] => { results := [.lit (.bool false)], args := [d1, d2, d3] }
  | _ => none }
def StreamBackWrongFalsely : Prop := streamBackRow.holds Tryd.pinned (OpenSpec.ofChange streamBackWrong)

/-- 'signetringlaw05.StreamSums': WHATEVER THE INPUT: true; the input reads as it did. -/
def streamSumsSpec : ChangeSpec := { name := "streamSums", fn := fun _ => fun
  | [d1, d2, d3] => { results := [.lit (.bool true)], args := [d1, d2, d3] }
  | _ => none }
def streamSumsRow : OpenClaim := { program := "ytcjmbeikjinedaadoor", sum := "f88ba2ea2d1b4268db5e5ac2dddee58e8f821e00c4d63585752c67a5dd29eb23", func := "signetring/signetringlaw05.StreamSums", spec := "streamSums", named := ["signetring/stream.first"], apart := false, laid := [("signetring/stream.first", laid_signetring_stream_first)] }
def StreamSumsSaid : Prop := streamSumsRow.holds Tryd.pinned (OpenSpec.ofChange streamSumsSpec)

/-- ITS FALSE NEIGHBOUR: 'it returns false'. Refute it at one input. -/
def streamSumsWrong : ChangeSpec := { name := "streamSums", fn := fun _ => fun
  | [d1, d2, d3] => { results := [.lit (.bool false)], args := [d1, d2, d3] }
  | _ => none }
def StreamSumsWrongFalsely : Prop := streamSumsRow.holds Tryd.pinned (OpenSpec.ofChange streamSumsWrong)

/-- 'signetringlaw05.StreamEnd': WHATEVER THE INPUT: true; the input reads as it did. -/
def streamEndSpec : ChangeSpec := { name := "streamEnd", fn := fun _ => fun
  | [d1, d2, d3] => { results := [.lit (.bool true)], args := [d1, d2, d3] }
  | _ => none }
def streamEndRow : OpenClaim := { program := "ytcjmbeikjinedaadoor", sum := "f88ba2ea2d1b4268db5e5ac2dddee58e8f821e00c4d63585752c67a5dd29eb23", func := "signetring/signetringlaw05.StreamEnd", spec := "streamEnd", named := ["signetring/stream.first"], apart := false, laid := [("signetring/stream.first", laid_signetring_stream_first)] }
def StreamEndSaid : Prop := streamEndRow.holds Tryd.pinned (OpenSpec.ofChange streamEndSpec)

/-- ITS FALSE NEIGHBOUR: 'it returns false'. Refute it at one input. -/
def streamEndWrong : ChangeSpec := { name := "streamEnd", fn := fun _ => fun
  | [d1, d2, d3] => { results := [.lit (.bool false)], args := [d1, d2, d3] }
  | _ => none }
def StreamEndWrongFalsely : Prop := streamEndRow.holds Tryd.pinned (OpenSpec.ofChange streamEndWrong)

/-- 'signetringlaw05.StreamBlocks': WHATEVER THE INPUT: true; the input reads as it did. -/
def streamBlocksSpec : ChangeSpec := { name := "streamBlocks", fn := fun _ => fun
  | [d1, d2] => { results := [.lit (.bool true)], args := [d1, d2] }
  | _ => none }
def streamBlocksRow : OpenClaim := { program := "ytcjmbeikjinedaadoor", sum := "f88ba2ea2d1b4268db5e5ac2dddee58e8f821e00c4d63585752c67a5dd29eb23", func := "signetring/signetringlaw05.StreamBlocks", spec := "streamBlocks", named := ["signetring/stream.first"], apart := false, laid := [("signetring/stream.first", laid_signetring_stream_first)] }
def StreamBlocksSaid : Prop := streamBlocksRow.holds Tryd.pinned (OpenSpec.ofChange streamBlocksSpec)

/-- ITS FALSE NEIGHBOUR: 'it returns false'. Refute it at one input. -/
def streamBlocksWrong : ChangeSpec := { name := "streamBlocks", fn := fun _ => fun
  | [d1, d2] => { results := [.lit (.bool false)], args := [d1, d2] }
  | _ => none }
def StreamBlocksWrongFalsely : Prop := streamBlocksRow.holds Tryd.pinned (OpenSpec.ofChange streamBlocksWrong)

/- THE SECOND FORM. 'bulk': how many values and letters a reading holds, each counted each time it is reached (what is shared counts as often as it is met; a slice's spare places count too). A statement '..UptoSaid' is the law's where the arguments, and the package variables that the reading takes, are together of bulk at most 1048576: NARROWER than '..Said'. Prove '..Said' where nothing that the law and all that it calls make is longer than what came in: it says more and counts as full. Else prove '..UptoSaid'. A law counts once. -/
mutual
def uptoBulk {H : Type} : DataW H → Nat
  | .lit (.string bytes) => bytes.length + 1
  | .lit _ => 1
  | .nil => 1
  | .ptr d => uptoBulk d + 1
  | .slice elems spare => uptoBulkAll elems + uptoBulkAll spare + 1
  | .agg parts => uptoBulkAll parts + 1
  | .iface _ d => uptoBulk d + 1
  | .map entries => uptoBulkEntries entries + 1
  | .held _ => 1
def uptoBulkAll {H : Type} : List (DataW H) → Nat
  | [] => 0
  | d :: r => uptoBulk d + uptoBulkAll r
def uptoBulkEntries {H : Type} : List (Lit × DataW H) → Nat
  | [] => 0
  | x :: r => uptoBulkEntry x + uptoBulkEntries r
def uptoBulkEntry {H : Type} : Lit × DataW H → Nat
  | (.string bytes, d) => bytes.length + uptoBulk d + 1
  | (_, d) => uptoBulk d + 1
 end
def uptoSmall : (H : Type) → List (DataW H) → Bool := fun _ ds => decide (uptoBulkAll ds ≤ 1048576)
def OpenSpec.upto (s : _root_.Go.ChangeSpec) : _root_.Go.OpenSpec := { _root_.Go.OpenSpec.ofChange s with cond := some uptoSmall }

/-- 'signetringlaw05.StreamTells', WHERE WHAT IT READS IS OF BULK AT MOST 1048576: true; the input reads as it did. -/
def streamTellsUptoRow : OpenClaim := { program := "ytcjmbeikjinedaadoor", sum := "f88ba2ea2d1b4268db5e5ac2dddee58e8f821e00c4d63585752c67a5dd29eb23", func := "signetring/signetringlaw05.StreamTells", spec := "streamTells", named := ["signetring/stream.first"], apart := false, laid := [("signetring/stream.first", laid_signetring_stream_first)], narrowed := true }
def StreamTellsUptoSaid : Prop := streamTellsUptoRow.holds Tryd.pinned (OpenSpec.upto streamTellsSpec)

/-- 'signetringlaw05.StreamBack', WHERE WHAT IT READS IS OF BULK AT MOST 1048576: true; the input reads as it did. -/
def streamBackUptoRow : OpenClaim := { program := "ytcjmbeikjinedaadoor", sum := "f88ba2ea2d1b4268db5e5ac2dddee58e8f821e00c4d63585752c67a5dd29eb23", func := "signetring/signetringlaw05.StreamBack", spec := "streamBack", named := ["signetring/stream.first"], apart := false, laid := [("signetring/stream.first", laid_signetring_stream_first)], narrowed := true }
def StreamBackUptoSaid : Prop := streamBackUptoRow.holds Tryd.pinned (OpenSpec.upto streamBackSpec)

/-- 'signetringlaw05.StreamSums', WHERE WHAT IT READS IS OF BULK AT MOST 1048576: true; the input reads as it did. -/
def streamSumsUptoRow : OpenClaim := { program := "ytcjmbeikjinedaadoor", sum := "f88ba2ea2d1b4268db5e5ac2dddee58e8f821e00c4d63585752c67a5dd29eb23", func := "signetring/signetringlaw05.StreamSums", spec := "streamSums", named := ["signetring/stream.first"], apart := false, laid := [("signetring/stream.first", laid_signetring_stream_first)], narrowed := true }
def StreamSumsUptoSaid : Prop := streamSumsUptoRow.holds Tryd.pinned (OpenSpec.upto streamSumsSpec)

/-- 'signetringlaw05.StreamEnd', WHERE WHAT IT READS IS OF BULK AT MOST 1048576: true; the input reads as it did. -/
def streamEndUptoRow : OpenClaim := { program := "ytcjmbeikjinedaadoor", sum := "f88ba2ea2d1b4268db5e5ac2dddee58e8f821e00c4d63585752c67a5dd29eb23", func := "signetring/signetringlaw05.StreamEnd", spec := "streamEnd", named := ["signetring/stream.first"], apart := false, laid := [("signetring/stream.first", laid_signetring_stream_first)], narrowed := true }
def StreamEndUptoSaid : Prop := streamEndUptoRow.holds Tryd.pinned (OpenSpec.upto streamEndSpec)

/-- 'signetringlaw05.StreamBlocks', WHERE WHAT IT READS IS OF BULK AT MOST 1048576: true; the input reads as it did. -/
def streamBlocksUptoRow : OpenClaim := { program := "ytcjmbeikjinedaadoor", sum := "f88ba2ea2d1b4268db5e5ac2dddee58e8f821e00c4d63585752c67a5dd29eb23", func := "signetring/signetringlaw05.StreamBlocks", spec := "streamBlocks", named := ["signetring/stream.first"], apart := false, laid := [("signetring/stream.first", laid_signetring_stream_first)], narrowed := true }
def StreamBlocksUptoSaid : Prop := streamBlocksUptoRow.holds Tryd.pinned (OpenSpec.upto streamBlocksSpec)

end Rows
end Go.Proofs.YtcjmbeikjinedaaDoor
