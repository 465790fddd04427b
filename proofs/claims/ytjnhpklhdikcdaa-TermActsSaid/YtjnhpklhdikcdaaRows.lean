/-
  No cell of these rows narrows 'for every input' (looked for: loops, veiled, ifaces, maps, wideKeys, modest, calm, conditions, laid).
  DERIVED. THE GIVEN ROWS OF THIS SEAT. 6 by the template 'for every input the law returns true; each argument reads behind the call as it read before'; 0 by the template 'total and deterministic' (their statements: YtjnhpklhdikcdaaTotals.lean).
  GIVEN WITH THE SEED: the statements are not yours to turn. If you find one false, say at which input.
  Laid BY PROGRAM, IN A SANDBOX (cutbox-rows.mjs): the forced cells as the released guide's own fill.sh prints them over the translation ad8f95868ddfdd64… (all of the seat's roots in one cut). By AI agents, Wed Nov 11 2026. No macro, syntax, notation, axiom, sorry.
-/
import Derived.Test.YtjnhpklhdikcdaaChecked
import GoSem.Claim
import GoSem.ClaimJoined
import GoSem.ClaimMapViews
import Derived.JoinedTies
import Derived.KernelRfl
namespace Go.Proofs.Ytjnhpklhdikcdaa
/- THE CELL 'sum', in the pinned program and in every row, IS THE sha256 OF THE DUMP (.gsa) THAT YtjnhpklhdikcdaaProg.lean LOADS. Nothing in Lean hashes anything: it is a label: what it is worth is what the hold of that sum in a sandbox is worth. -/
noncomputable def Try.pinned : Pinned := { name := "ytjnhpklhdikcdaa", sum := "ad8f95868ddfdd645f93c7ab2df5c51f70f2f31863ed4b3c211db8b0d0142aaf", checked := Try.checked }
namespace Rows
def none {H : Type} : Left H := { results := [], args := [] }

/-- 'signetringlaw09.TermActs': WHATEVER THE INPUT: true; the input reads as it did. -/
def termActsSpec : ChangeSpec := { name := "termActs", fn := fun _ => fun
  | [d] => { results := [.lit (.bool true)], args := [d] }
  | _ => none }
def termActsRow : OpenClaim := { program := "ytjnhpklhdikcdaa", sum := "ad8f95868ddfdd645f93c7ab2df5c51f70f2f31863ed4b3c211db8b0d0142aaf", func := "signetring/signetringlaw09.TermActs", spec := "termActs", inPlace := ["internal/abi.NoEscape", "internal/bytealg.MakeNoZero"], unfollowed := true, recurses := true, apart := false }
def TermActsSaid : Prop := termActsRow.holds Try.pinned (OpenSpec.ofChange termActsSpec)

/-- ITS FALSE NEIGHBOUR: 'it returns false'. Refute it at one input. -/
def termActsWrong : ChangeSpec := { name := "termActs", fn := fun _ => fun
  | [d] => { results := [.lit (.bool false)], args := [d] }
  | _ => none }
def TermActsWrongFalsely : Prop := termActsRow.holds Try.pinned (OpenSpec.ofChange termActsWrong)

/-- 'signetringlaw09.TermSame': WHATEVER THE INPUT: true; the input reads as it did. -/
def termSameSpec : ChangeSpec := { name := "termSame", fn := fun _ => fun
  | [d] => { results := [.lit (.bool true)], args := [d] }
  | _ => none }
def termSameRow : OpenClaim := { program := "ytjnhpklhdikcdaa", sum := "ad8f95868ddfdd645f93c7ab2df5c51f70f2f31863ed4b3c211db8b0d0142aaf", func := "signetring/signetringlaw09.TermSame", spec := "termSame", inPlace := ["internal/abi.NoEscape", "internal/bytealg.MakeNoZero"], unfollowed := true, recurses := true, apart := false }
def TermSameSaid : Prop := termSameRow.holds Try.pinned (OpenSpec.ofChange termSameSpec)

/-- ITS FALSE NEIGHBOUR: 'it returns false'. Refute it at one input. -/
def termSameWrong : ChangeSpec := { name := "termSame", fn := fun _ => fun
  | [d] => { results := [.lit (.bool false)], args := [d] }
  | _ => none }
def TermSameWrongFalsely : Prop := termSameRow.holds Try.pinned (OpenSpec.ofChange termSameWrong)

/-- 'signetringlaw09.TermBoth': WHATEVER THE INPUT: true; the input reads as it did. -/
def termBothSpec : ChangeSpec := { name := "termBoth", fn := fun _ => fun
  | [d1, d2, d3] => { results := [.lit (.bool true)], args := [d1, d2, d3] }
  | _ => none }
def termBothRow : OpenClaim := { program := "ytjnhpklhdikcdaa", sum := "ad8f95868ddfdd645f93c7ab2df5c51f70f2f31863ed4b3c211db8b0d0142aaf", func := "signetring/signetringlaw09.TermBoth", spec := "termBoth", inPlace := ["internal/abi.NoEscape", "internal/bytealg.MakeNoZero"], unfollowed := true, recurses := true, apart := false }
def TermBothSaid : Prop := termBothRow.holds Try.pinned (OpenSpec.ofChange termBothSpec)

/-- ITS FALSE NEIGHBOUR: 'it returns false'. Refute it at one input. -/
def termBothWrong : ChangeSpec := { name := "termBoth", fn := fun _ => fun
  | [d1, d2, d3] => { results := [.lit (.bool false)], args := [d1, d2, d3] }
  | _ => none }
def TermBothWrongFalsely : Prop := termBothRow.holds Try.pinned (OpenSpec.ofChange termBothWrong)

/-- 'signetringlaw09.TermRefused': WHATEVER THE INPUT: true; the input reads as it did. -/
def termRefusedSpec : ChangeSpec := { name := "termRefused", fn := fun _ => fun
  | [d1, d2] => { results := [.lit (.bool true)], args := [d1, d2] }
  | _ => none }
def termRefusedRow : OpenClaim := { program := "ytjnhpklhdikcdaa", sum := "ad8f95868ddfdd645f93c7ab2df5c51f70f2f31863ed4b3c211db8b0d0142aaf", func := "signetring/signetringlaw09.TermRefused", spec := "termRefused", inPlace := ["internal/abi.NoEscape", "internal/bytealg.MakeNoZero"], unfollowed := true, recurses := true, apart := false }
def TermRefusedSaid : Prop := termRefusedRow.holds Try.pinned (OpenSpec.ofChange termRefusedSpec)

/-- ITS FALSE NEIGHBOUR: 'it returns false'. Refute it at one input. -/
def termRefusedWrong : ChangeSpec := { name := "termRefused", fn := fun _ => fun
  | [d1, d2] => { results := [.lit (.bool false)], args := [d1, d2] }
  | _ => none }
def TermRefusedWrongFalsely : Prop := termRefusedRow.holds Try.pinned (OpenSpec.ofChange termRefusedWrong)

/-- 'signetringlaw09.TermNobody': WHATEVER THE INPUT: true; the input reads as it did. -/
def termNobodySpec : ChangeSpec := { name := "termNobody", fn := fun _ => fun
  | [d1, d2] => { results := [.lit (.bool true)], args := [d1, d2] }
  | _ => none }
def termNobodyRow : OpenClaim := { program := "ytjnhpklhdikcdaa", sum := "ad8f95868ddfdd645f93c7ab2df5c51f70f2f31863ed4b3c211db8b0d0142aaf", func := "signetring/signetringlaw09.TermNobody", spec := "termNobody", inPlace := ["internal/abi.NoEscape", "internal/bytealg.MakeNoZero"], recurses := true, apart := false }
def TermNobodySaid : Prop := termNobodyRow.holds Try.pinned (OpenSpec.ofChange termNobodySpec)

/-- ITS FALSE NEIGHBOUR: 'it returns false'. Refute it at one input. -/
def termNobodyWrong : ChangeSpec := { name := "termNobody", fn := fun _ => fun
  | [d1, d2] => { results := [.lit (.bool false)], args := [d1, d2] }
  | _ => none }
def TermNobodyWrongFalsely : Prop := termNobodyRow.holds Try.pinned (OpenSpec.ofChange termNobodyWrong)

/-- 'signetringlaw09.TermOrder': WHATEVER THE INPUT: true; the input reads as it did. -/
def termOrderSpec : ChangeSpec := { name := "termOrder", fn := fun _ => fun
  | [d1, d2] => { results := [.lit (.bool true)], args := [d1, d2] }
  | _ => none }
def termOrderRow : OpenClaim := { program := "ytjnhpklhdikcdaa", sum := "ad8f95868ddfdd645f93c7ab2df5c51f70f2f31863ed4b3c211db8b0d0142aaf", func := "signetring/signetringlaw09.TermOrder", spec := "termOrder", inPlace := ["internal/abi.NoEscape", "internal/bytealg.MakeNoZero"], unfollowed := true, recurses := true, apart := false }
def TermOrderSaid : Prop := termOrderRow.holds Try.pinned (OpenSpec.ofChange termOrderSpec)

/-- ITS FALSE NEIGHBOUR: 'it returns false'. Refute it at one input. -/
def termOrderWrong : ChangeSpec := { name := "termOrder", fn := fun _ => fun
  | [d1, d2] => { results := [.lit (.bool false)], args := [d1, d2] }
  | _ => none }
def TermOrderWrongFalsely : Prop := termOrderRow.holds Try.pinned (OpenSpec.ofChange termOrderWrong)

/- THE SECOND FORM. 'bulk': how many values and letters a reading holds, each counted each time it is reached (what is shared counts as often as it is met; a slice's spare places count too). A statement '..UptoSaid' is the law's where the arguments, and the package variables that the reading takes, are together of bulk at most 1048576: NARROWER than '..Said'. Prove '..Said' where nothing that the law and all that it calls make is longer than what came in: it says more and counts as full. Else prove '..UptoSaid'. A law counts once. -/
mutual
def uptoBulk {H : Type} : DataW H → Nat
  | .lit (.string bytes) => bytes.length + 1
  | .lit _ => 1
  | .nil => 1
  | .ptr d => uptoBulk d + 1
  | .slice elems spare => uptoBulkAll elems + uptoBulkAll spare + 1
  | .agg parts => uptoBulkAll parts + 1
  | .iface _ d => uptoBulk d + 1
  | .map entries => uptoBulkEntries entries + 1
  | .held _ => 1
def uptoBulkAll {H : Type} : List (DataW H) → Nat
  | [] => 0
  | d :: r => uptoBulk d + uptoBulkAll r
def uptoBulkEntries {H : Type} : List (Lit × DataW H) → Nat
  | [] => 0
  | x :: r => uptoBulkEntry x + uptoBulkEntries r
def uptoBulkEntry {H : Type} : Lit × DataW H → Nat
  | (.string bytes, d) => bytes.length + uptoBulk d + 1
  | (_, d) => uptoBulk d + 1
 end
def uptoSmall : (H : Type) → List (DataW H) → Bool := fun _ ds => decide (uptoBulkAll ds ≤ 1048576)
def OpenSpec.upto (s : _root_.Go.ChangeSpec) : _root_.Go.OpenSpec := { _root_.Go.OpenSpec.ofChange s with cond := some uptoSmall }

/-- 'signetringlaw09.TermActs', WHERE WHAT IT READS IS OF BULK AT MOST 1048576: true; the input reads as it did. -/
def termActsUptoRow : OpenClaim := { program := "ytjnhpklhdikcdaa", sum := "ad8f95868ddfdd645f93c7ab2df5c51f70f2f31863ed4b3c211db8b0d0142aaf", func := "signetring/signetringlaw09.TermActs", spec := "termActs", inPlace := ["internal/abi.NoEscape", "internal/bytealg.MakeNoZero"], unfollowed := true, recurses := true, apart := false, narrowed := true }
def TermActsUptoSaid : Prop := termActsUptoRow.holds Try.pinned (OpenSpec.upto termActsSpec)

/-- 'signetringlaw09.TermSame', WHERE WHAT IT READS IS OF BULK AT MOST 1048576: true; the input reads as it did. -/
def termSameUptoRow : OpenClaim := { program := "ytjnhpklhdikcdaa", sum := "ad8f95868ddfdd645f93c7ab2df5c51f70f2f31863ed4b3c211db8b0d0142aaf", func := "signetring/signetringlaw09.TermSame", spec := "termSame", inPlace := ["internal/abi.NoEscape", "internal/bytealg.MakeNoZero"], unfollowed := true, recurses := true, apart := false, narrowed := true }
def TermSameUptoSaid : Prop := termSameUptoRow.holds Try.pinned (OpenSpec.upto termSameSpec)

/-- 'signetringlaw09.TermBoth', WHERE WHAT IT READS IS OF BULK AT MOST 1048576: true; the input reads as it did. -/
def termBothUptoRow : OpenClaim := { program := "ytjnhpklhdikcdaa", sum := "ad8f95868ddfdd645f93c7ab2df5c51f70f2f31863ed4b3c211db8b0d0142aaf", func := "signetring/signetringlaw09.TermBoth", spec := "termBoth", inPlace := ["internal/abi.NoEscape", "internal/bytealg.MakeNoZero"], unfollowed := true, recurses := true, apart := false, narrowed := true }
def TermBothUptoSaid : Prop := termBothUptoRow.holds Try.pinned (OpenSpec.upto termBothSpec)

/-- 'signetringlaw09.TermRefused', WHERE WHAT IT READS IS OF BULK AT MOST 1048576: true; the input reads as it did. -/
def termRefusedUptoRow : OpenClaim := { program := "ytjnhpklhdikcdaa", sum := "ad8f95868ddfdd645f93c7ab2df5c51f70f2f31863ed4b3c211db8b0d0142aaf", func := "signetring/signetringlaw09.TermRefused", spec := "termRefused", inPlace := ["internal/abi.NoEscape", "internal/bytealg.MakeNoZero"], unfollowed := true, recurses := true, apart := false, narrowed := true }
def TermRefusedUptoSaid : Prop := termRefusedUptoRow.holds Try.pinned (OpenSpec.upto termRefusedSpec)

/-- 'signetringlaw09.TermNobody', WHERE WHAT IT READS IS OF BULK AT MOST 1048576: true; the input reads as it did. -/
def termNobodyUptoRow : OpenClaim := { program := "ytjnhpklhdikcdaa", sum := "ad8f95868ddfdd645f93c7ab2df5c51f70f2f31863ed4b3c211db8b0d0142aaf", func := "signetring/signetringlaw09.TermNobody", spec := "termNobody", inPlace := ["internal/abi.NoEscape", "internal/bytealg.MakeNoZero"], recurses := true, apart := false, narrowed := true }
def TermNobodyUptoSaid : Prop := termNobodyUptoRow.holds Try.pinned (OpenSpec.upto termNobodySpec)

/-- 'signetringlaw09.TermOrder', WHERE WHAT IT READS IS OF BULK AT MOST 1048576: true; the input reads as it did. -/
def termOrderUptoRow : OpenClaim := { program := "ytjnhpklhdikcdaa", sum := "ad8f95868ddfdd645f93c7ab2df5c51f70f2f31863ed4b3c211db8b0d0142aaf", func := "signetring/signetringlaw09.TermOrder", spec := "termOrder", inPlace := ["internal/abi.NoEscape", "internal/bytealg.MakeNoZero"], unfollowed := true, recurses := true, apart := false, narrowed := true }
def TermOrderUptoSaid : Prop := termOrderUptoRow.holds Try.pinned (OpenSpec.upto termOrderSpec)

end Rows
end Go.Proofs.Ytjnhpklhdikcdaa
