/-
  No cell of these rows narrows 'for every input' (looked for: loops, veiled, ifaces, maps, wideKeys, modest, calm, conditions, laid).
  DERIVED. THE GIVEN ROWS OF THIS SEAT. 6 by the template 'for every input the law returns true; each argument reads behind the call as it read before'; 0 by the template 'total and deterministic' (their statements: YtcjmbeikjinedaaTotals.lean).
  GIVEN WITH THE SEED: the statements are not yours to turn. If you find one false, say at which input.
  Laid BY PROGRAM, IN A SANDBOX (cutbox-rows.mjs): the forced cells as the released guide's own fill.sh prints them over the translation 81cd76020f44ba50… (all of the seat's roots in one cut). By AI agents, Wed Nov 11 2026. No macro, syntax, notation, axiom, sorry.
-/
import Derived.Test.YtcjmbeikjinedaaChecked
import GoSem.Claim
import GoSem.ClaimJoined
import GoSem.ClaimMapViews
import Derived.JoinedTies
import Derived.KernelRfl
namespace Go.Proofs.Ytcjmbeikjinedaa
/- THE CELL 'sum', in the pinned program and in every row, IS THE sha256 OF THE DUMP (.gsa) THAT YtcjmbeikjinedaaProg.lean LOADS. Nothing in Lean hashes anything: it is a label: what it is worth is what the hold of that sum in a sandbox is worth. -/
noncomputable def Try.pinned : Pinned := { name := "ytcjmbeikjinedaa", sum := "81cd76020f44ba50f1cbcabde10a5d2049dfedda78d484dc5741a3c9d6d1c21d", checked := Try.checked }
namespace Rows
def none {H : Type} : Left H := { results := [], args := [] }

/-- 'signetringlaw06.TagTells': WHATEVER THE INPUT: true; the input reads as it did. -/
def tagTellsSpec : ChangeSpec := { name := "tagTells", fn := fun _ => fun
  | [d1, d2] => { results := [.lit (.bool true)], args := [d1, d2] }
  | _ => none }
def tagTellsRow : OpenClaim := { program := "ytcjmbeikjinedaa", sum := "81cd76020f44ba50f1cbcabde10a5d2049dfedda78d484dc5741a3c9d6d1c21d", func := "signetring/signetringlaw06.TagTells", spec := "tagTells", inPlace := ["math/bits.Add64"], apart := false }
def TagTellsSaid : Prop := tagTellsRow.holds Try.pinned (OpenSpec.ofChange tagTellsSpec)

/-- ITS FALSE NEIGHBOUR: 'it returns false'. Refute it at one input. -/
def tagTellsWrong : ChangeSpec := { name := "tagTells", fn := fun _ => fun
  | [d1, d2] => { results := [.lit (.bool false)], args := [d1, d2] }
  | _ => none }
def TagTellsWrongFalsely : Prop := tagTellsRow.holds Try.pinned (OpenSpec.ofChange tagTellsWrong)

/-- 'signetringlaw06.TagEquals': WHATEVER THE INPUT: true; the input reads as it did. -/
def tagEqualsSpec : ChangeSpec := { name := "tagEquals", fn := fun _ => fun
  | [d] => { results := [.lit (.bool true)], args := [d] }
  | _ => none }
def tagEqualsRow : OpenClaim := { program := "ytcjmbeikjinedaa", sum := "81cd76020f44ba50f1cbcabde10a5d2049dfedda78d484dc5741a3c9d6d1c21d", func := "signetring/signetringlaw06.TagEquals", spec := "tagEquals", inPlace := ["math/bits.Add64"], apart := false }
def TagEqualsSaid : Prop := tagEqualsRow.holds Try.pinned (OpenSpec.ofChange tagEqualsSpec)

/-- ITS FALSE NEIGHBOUR: 'it returns false'. Refute it at one input. -/
def tagEqualsWrong : ChangeSpec := { name := "tagEquals", fn := fun _ => fun
  | [d] => { results := [.lit (.bool false)], args := [d] }
  | _ => none }
def TagEqualsWrongFalsely : Prop := tagEqualsRow.holds Try.pinned (OpenSpec.ofChange tagEqualsWrong)

/-- 'signetringlaw06.TagTogether': WHATEVER THE INPUT: true; the input reads as it did. -/
def tagTogetherSpec : ChangeSpec := { name := "tagTogether", fn := fun _ => fun
  | [d1, d2, d3] => { results := [.lit (.bool true)], args := [d1, d2, d3] }
  | _ => none }
def tagTogetherRow : OpenClaim := { program := "ytcjmbeikjinedaa", sum := "81cd76020f44ba50f1cbcabde10a5d2049dfedda78d484dc5741a3c9d6d1c21d", func := "signetring/signetringlaw06.TagTogether", spec := "tagTogether", inPlace := ["math/bits.Add64"], apart := false }
def TagTogetherSaid : Prop := tagTogetherRow.holds Try.pinned (OpenSpec.ofChange tagTogetherSpec)

/-- ITS FALSE NEIGHBOUR: 'it returns false'. Refute it at one input. -/
def tagTogetherWrong : ChangeSpec := { name := "tagTogether", fn := fun _ => fun
  | [d1, d2, d3] => { results := [.lit (.bool false)], args := [d1, d2, d3] }
  | _ => none }
def TagTogetherWrongFalsely : Prop := tagTogetherRow.holds Try.pinned (OpenSpec.ofChange tagTogetherWrong)

/-- 'signetringlaw06.TagBits': WHATEVER THE INPUT: true; the input reads as it did. -/
def tagBitsSpec : ChangeSpec := { name := "tagBits", fn := fun _ => fun
  | [d1, d2, d3] => { results := [.lit (.bool true)], args := [d1, d2, d3] }
  | _ => none }
def tagBitsRow : OpenClaim := { program := "ytcjmbeikjinedaa", sum := "81cd76020f44ba50f1cbcabde10a5d2049dfedda78d484dc5741a3c9d6d1c21d", func := "signetring/signetringlaw06.TagBits", spec := "tagBits", inPlace := ["math/bits.Add64"], apart := false }
def TagBitsSaid : Prop := tagBitsRow.holds Try.pinned (OpenSpec.ofChange tagBitsSpec)

/-- ITS FALSE NEIGHBOUR: 'it returns false'. Refute it at one input. -/
def tagBitsWrong : ChangeSpec := { name := "tagBits", fn := fun _ => fun
  | [d1, d2, d3] => { results := [.lit (.bool false)], args := [d1, d2, d3] }
  | _ => none }
def TagBitsWrongFalsely : Prop := tagBitsRow.holds Try.pinned (OpenSpec.ofChange tagBitsWrong)

/-- 'signetringlaw06.TagBlocks': WHATEVER THE INPUT: true; the input reads as it did. -/
def tagBlocksSpec : ChangeSpec := { name := "tagBlocks", fn := fun _ => fun
  | [d1, d2] => { results := [.lit (.bool true)], args := [d1, d2] }
  | _ => none }
def tagBlocksRow : OpenClaim := { program := "ytcjmbeikjinedaa", sum := "81cd76020f44ba50f1cbcabde10a5d2049dfedda78d484dc5741a3c9d6d1c21d", func := "signetring/signetringlaw06.TagBlocks", spec := "tagBlocks", inPlace := ["math/bits.Add64"], apart := false }
def TagBlocksSaid : Prop := tagBlocksRow.holds Try.pinned (OpenSpec.ofChange tagBlocksSpec)

/-- ITS FALSE NEIGHBOUR: 'it returns false'. Refute it at one input. -/
def tagBlocksWrong : ChangeSpec := { name := "tagBlocks", fn := fun _ => fun
  | [d1, d2] => { results := [.lit (.bool false)], args := [d1, d2] }
  | _ => none }
def TagBlocksWrongFalsely : Prop := tagBlocksRow.holds Try.pinned (OpenSpec.ofChange tagBlocksWrong)

/-- 'signetringlaw06.TagOne': WHATEVER THE INPUT: true; the input reads as it did. -/
def tagOneSpec : ChangeSpec := { name := "tagOne", fn := fun _ => fun
  | [d] => { results := [.lit (.bool true)], args := [d] }
  | _ => none }
def tagOneRow : OpenClaim := { program := "ytcjmbeikjinedaa", sum := "81cd76020f44ba50f1cbcabde10a5d2049dfedda78d484dc5741a3c9d6d1c21d", func := "signetring/signetringlaw06.TagOne", spec := "tagOne", inPlace := ["math/bits.Add64"], apart := false }
def TagOneSaid : Prop := tagOneRow.holds Try.pinned (OpenSpec.ofChange tagOneSpec)

/-- ITS FALSE NEIGHBOUR: 'it returns false'. Refute it at one input. -/
def tagOneWrong : ChangeSpec := { name := "tagOne", fn := fun _ => fun
  | [d] => { results := [.lit (.bool false)], args := [d] }
  | _ => none }
def TagOneWrongFalsely : Prop := tagOneRow.holds Try.pinned (OpenSpec.ofChange tagOneWrong)

/- THE SECOND FORM. 'bulk': how many values and letters a reading holds, each counted each time it is reached (what is shared counts as often as it is met; a slice's spare places count too). A statement '..UptoSaid' is the law's where the arguments, and the package variables that the reading takes, are together of bulk at most 1048576: NARROWER than '..Said'. Prove '..Said' where nothing that the law and all that it calls make is longer than what came in: it says more and counts as full. Else prove '..UptoSaid'. A law counts once. -/
mutual
def uptoBulk {H : Type} : DataW H → Nat
  | .lit (.string bytes) => bytes.length + 1
  | .lit _ => 1
  | .nil => 1
  | .ptr d => uptoBulk d + 1
  | .slice elems spare => uptoBulkAll elems + uptoBulkAll spare + 1
  | .agg parts => uptoBulkAll parts + 1
  | .iface _ d => uptoBulk d + 1
  | .map entries => uptoBulkEntries entries + 1
  | .held _ => 1
def uptoBulkAll {H : Type} : List (DataW H) → Nat
  | [] => 0
  | d :: r => uptoBulk d + uptoBulkAll r
def uptoBulkEntries {H : Type} : List (Lit × DataW H) → Nat
  | [] => 0
  | x :: r => uptoBulkEntry x + uptoBulkEntries r
def uptoBulkEntry {H : Type} : Lit × DataW H → Nat
  | (.string bytes, d) => bytes.length + uptoBulk d + 1
  | (_, d) => uptoBulk d + 1
 end
def uptoSmall : (H : Type) → List (DataW H) → Bool := fun _ ds => decide (uptoBulkAll ds ≤ 1048576)
def OpenSpec.upto (s : _root_.Go.ChangeSpec) : _root_.Go.OpenSpec := { _root_.Go.OpenSpec.ofChange s with cond := some uptoSmall }

/-- 'signetringlaw06.TagTells', WHERE WHAT IT READS IS OF BULK AT MOST 1048576: true; the input reads as it did. -/
def tagTellsUptoRow : OpenClaim := { program := "ytcjmbeikjinedaa", sum := "81cd76020f44ba50f1cbcabde10a5d2049dfedda78d484dc5741a3c9d6d1c21d", func := "signetring/signetringlaw06.TagTells", spec := "tagTells", inPlace := ["math/bits.Add64"], apart := false, narrowed := true }
def TagTellsUptoSaid : Prop := tagTellsUptoRow.holds Try.pinned (OpenSpec.upto tagTellsSpec)

/-- 'signetringlaw06.TagEquals', WHERE WHAT IT READS IS OF BULK AT MOST 1048576: true; the input reads as it did. -/
def tagEqualsUptoRow : OpenClaim := { program := "ytcjmbeikjinedaa", sum := "81cd76020f44ba50f1cbcabde10a5d2049dfedda78d484dc5741a3c9d6d1c21d", func := "signetring/signetringlaw06.TagEquals", spec := "tagEquals", inPlace := ["math/bits.Add64"], apart := false, narrowed := true }
def TagEqualsUptoSaid : Prop := tagEqualsUptoRow.holds Try.pinned (OpenSpec.upto tagEqualsSpec)

/-- 'signetringlaw06.TagTogether', WHERE WHAT IT READS IS OF BULK AT MOST 1048576: true; the input reads as it did. -/
def tagTogetherUptoRow : OpenClaim := { program := "ytcjmbeikjinedaa", sum := "81cd76020f44ba50f1cbcabde10a5d2049dfedda78d484dc5741a3c9d6d1c21d", func := "signetring/signetringlaw06.TagTogether", spec := "tagTogether", inPlace := ["math/bits.Add64"], apart := false, narrowed := true }
def TagTogetherUptoSaid : Prop := tagTogetherUptoRow.holds Try.pinned (OpenSpec.upto tagTogetherSpec)

/-- 'signetringlaw06.TagBits', WHERE WHAT IT READS IS OF BULK AT MOST 1048576: true; the input reads as it did. -/
def tagBitsUptoRow : OpenClaim := { program := "ytcjmbeikjinedaa", sum := "81cd76020f44ba50f1cbcabde10a5d2049dfedda78d484dc5741a3c9d6d1c21d", func := "signetring/signetringlaw06.TagBits", spec := "tagBits", inPlace := ["math/bits.Add64"], apart := false, narrowed := true }
def TagBitsUptoSaid : Prop := tagBitsUptoRow.holds Try.pinned (OpenSpec.upto tagBitsSpec)

/-- 'signetringlaw06.TagBlocks', WHERE WHAT IT READS IS OF BULK AT MOST 1048576: true; the input reads as it did. -/
def tagBlocksUptoRow : OpenClaim := { program := "ytcjmbeikjinedaa", sum := "81cd76020f44ba50f1cbcabde10a5d2049dfedda78d484dc5741a3c9d6d1c21d", func := "signetring/signetringlaw06.TagBlocks", spec := "tagBlocks", inPlace := ["math/bits.Add64"], apart := false, narrowed := true }
def TagBlocksUptoSaid : Prop := tagBlocksUptoRow.holds Try.pinned (OpenSpec.upto tagBlocksSpec)

/-- 'signetringlaw06.TagOne', WHERE WHAT IT READS IS OF BULK AT MOST 1048576: true; the input reads as it did. -/
def tagOneUptoRow : OpenClaim := { program := "ytcjmbeikjinedaa", sum := "81cd76020f44ba50f1cbcabde10a5d2049dfedda78d484dc5741a3c9d6d1c21d", func := "signetring/signetringlaw06.TagOne", spec := "tagOne", inPlace := ["math/bits.Add64"], apart := false, narrowed := true }
def TagOneUptoSaid : Prop := tagOneUptoRow.holds Try.pinned (OpenSpec.upto tagOneSpec)

end Rows
end Go.Proofs.Ytcjmbeikjinedaa
