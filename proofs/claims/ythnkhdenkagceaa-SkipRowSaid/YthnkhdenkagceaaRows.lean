/-
  No cell of these rows narrows 'for every input' (looked for: loops, veiled, ifaces, maps, wideKeys, modest, calm, conditions, laid).
  DERIVED. THE GIVEN ROWS OF THIS SEAT. 5 by the template 'for every input the law returns true; each argument reads behind the call as it read before'; 0 by the template 'total and deterministic' (their statements: YthnkhdenkagceaaTotals.lean).
  GIVEN WITH THE SEED: the statements are not yours to turn. If you find one false, say at which input.
  Laid BY PROGRAM, IN A SANDBOX (cutbox-rows.mjs): the forced cells as the released guide's own fill.sh prints them over the translation 0fac71d9d6ebc8bb… (all of the seat's roots in one cut). By AI agents, Wed Nov 11 2026. No macro, syntax, notation, axiom, sorry.
-/
import Derived.Test.YthnkhdenkagceaaChecked
import GoSem.Claim
import GoSem.ClaimJoined
import GoSem.ClaimMapViews
import Derived.JoinedTies
import Derived.KernelRfl
namespace Go.Proofs.Ythnkhdenkagceaa
/- THE CELL 'sum', in the pinned program and in every row, IS THE sha256 OF THE DUMP (.gsa) THAT YthnkhdenkagceaaProg.lean LOADS. Nothing in Lean hashes anything: it is a label: what it is worth is what the hold of that sum in a sandbox is worth. -/
noncomputable def Try.pinned : Pinned := { name := "ythnkhdenkagceaa", sum := "0fac71d9d6ebc8bba75a6772d50f88041f141e46b49d6f9b6cc10385175b4c3b", checked := Try.checked }
namespace Rows
def none {H : Type} : Left H := { results := [], args := [] }

/-- 'signetringlaw16.SkipCalls': WHATEVER THE INPUT: true; the input reads as it did. -/
def skipCallsSpec : ChangeSpec := { name := "skipCalls", fn := fun _ => fun
  | [d1, d2] => { results := [.lit (.bool true)], args := [d1, d2] }
  | _ => none }
def skipCallsRow : OpenClaim := { program := "ythnkhdenkagceaa", sum := "0fac71d9d6ebc8bba75a6772d50f88041f141e46b49d6f9b6cc10385175b4c3b", func := "signetring/signetringlaw16.SkipCalls", spec := "skipCalls", unfollowed := true, recurses := true, apart := false }
def SkipCallsSaid : Prop := skipCallsRow.holds Try.pinned (OpenSpec.ofChange skipCallsSpec)

/-- ITS FALSE NEIGHBOUR: 'it returns false'. Refute it at one input. -/
def skipCallsWrong : ChangeSpec := { name := "skipCalls", fn := fun _ => fun
  | [d1, d2] => { results := [.lit (.bool false)], args := [d1, d2] }
  | _ => none }
def SkipCallsWrongFalsely : Prop := skipCallsRow.holds Try.pinned (OpenSpec.ofChange skipCallsWrong)

/-- 'signetringlaw16.SkipActs': WHATEVER THE INPUT: true; the input reads as it did. -/
def skipActsSpec : ChangeSpec := { name := "skipActs", fn := fun _ => fun
  | [d] => { results := [.lit (.bool true)], args := [d] }
  | _ => none }
def skipActsRow : OpenClaim := { program := "ythnkhdenkagceaa", sum := "0fac71d9d6ebc8bba75a6772d50f88041f141e46b49d6f9b6cc10385175b4c3b", func := "signetring/signetringlaw16.SkipActs", spec := "skipActs", unfollowed := true, recurses := true, apart := false }
def SkipActsSaid : Prop := skipActsRow.holds Try.pinned (OpenSpec.ofChange skipActsSpec)

/-- ITS FALSE NEIGHBOUR: 'it returns false'. Refute it at one input. -/
def skipActsWrong : ChangeSpec := { name := "skipActs", fn := fun _ => fun
  | [d] => { results := [.lit (.bool false)], args := [d] }
  | _ => none }
def SkipActsWrongFalsely : Prop := skipActsRow.holds Try.pinned (OpenSpec.ofChange skipActsWrong)

/-- 'signetringlaw16.SkipRow': WHATEVER THE INPUT: true; the input reads as it did. -/
def skipRowSpec : ChangeSpec := { name := "skipRow", fn := fun _ => fun
  | [d1, d2] => { results := [.lit (.bool true)], args := [d1, d2] }
  | _ => none }
def skipRowRow : OpenClaim := { program := "ythnkhdenkagceaa", sum := "0fac71d9d6ebc8bba75a6772d50f88041f141e46b49d6f9b6cc10385175b4c3b", func := "signetring/signetringlaw16.SkipRow", spec := "skipRow", unfollowed := true, recurses := true, apart := false }
def SkipRowSaid : Prop := skipRowRow.holds Try.pinned (OpenSpec.ofChange skipRowSpec)

/-- ITS FALSE NEIGHBOUR: 'it returns false'. Refute it at one input. -/
def skipRowWrong : ChangeSpec := { name := "skipRow", fn := fun _ => fun
  | [d1, d2] => { results := [.lit (.bool false)], args := [d1, d2] }
  | _ => none }
def SkipRowWrongFalsely : Prop := skipRowRow.holds Try.pinned (OpenSpec.ofChange skipRowWrong)

/-- 'signetringlaw16.SkipDrops': WHATEVER THE INPUT: true; the input reads as it did. -/
def skipDropsSpec : ChangeSpec := { name := "skipDrops", fn := fun _ => fun
  | [d1, d2] => { results := [.lit (.bool true)], args := [d1, d2] }
  | _ => none }
def skipDropsRow : OpenClaim := { program := "ythnkhdenkagceaa", sum := "0fac71d9d6ebc8bba75a6772d50f88041f141e46b49d6f9b6cc10385175b4c3b", func := "signetring/signetringlaw16.SkipDrops", spec := "skipDrops", unfollowed := true, recurses := true, apart := false }
def SkipDropsSaid : Prop := skipDropsRow.holds Try.pinned (OpenSpec.ofChange skipDropsSpec)

/-- ITS FALSE NEIGHBOUR: 'it returns false'. Refute it at one input. -/
def skipDropsWrong : ChangeSpec := { name := "skipDrops", fn := fun _ => fun
  | [d1, d2] => { results := [.lit (.bool false)], args := [d1, d2] }
  | _ => none }
def SkipDropsWrongFalsely : Prop := skipDropsRow.holds Try.pinned (OpenSpec.ofChange skipDropsWrong)

/-- 'signetringlaw16.SkipBack': WHATEVER THE INPUT: true; the input reads as it did. -/
def skipBackSpec : ChangeSpec := { name := "skipBack", fn := fun _ => fun
  | [d1, d2] => { results := [.lit (.bool true)], args := [d1, d2] }
  | _ => none }
def skipBackRow : OpenClaim := { program := "ythnkhdenkagceaa", sum := "0fac71d9d6ebc8bba75a6772d50f88041f141e46b49d6f9b6cc10385175b4c3b", func := "signetring/signetringlaw16.SkipBack", spec := "skipBack", unfollowed := true, recurses := true, apart := false }
def SkipBackSaid : Prop := skipBackRow.holds Try.pinned (OpenSpec.ofChange skipBackSpec)

/-- ITS FALSE NEIGHBOUR: 'it returns false'. Refute it at one input. -/
def skipBackWrong : ChangeSpec := { name := "skipBack", fn := fun _ => fun
  | [d1, d2] => { results := [.lit (.bool false)], args := [d1, d2] }
  | _ => none }
def SkipBackWrongFalsely : Prop := skipBackRow.holds Try.pinned (OpenSpec.ofChange skipBackWrong)

/- THE SECOND FORM. 'bulk': how many values and letters a reading holds, each counted each time it is reached (what is shared counts as often as it is met; a slice's spare places count too). A statement '..UptoSaid' is the law's where the arguments, and the package variables that the reading takes, are together of bulk at most 1048576: NARROWER than '..Said'. Prove '..Said' where nothing that the law and all that it calls make is longer than what came in: it says more and counts as full. Else prove '..UptoSaid'. A law counts once. -/
mutual
def uptoBulk {H : Type} : DataW H → Nat
  | .lit (.string bytes) => bytes.length + 1
  | .lit _ => 1
  | .nil => 1
  | .ptr d => uptoBulk d + 1
  | .slice elems spare => uptoBulkAll elems + uptoBulkAll spare + 1
  | .agg parts => uptoBulkAll parts + 1
  | .iface _ d => uptoBulk d + 1
  | .map entries => uptoBulkEntries entries + 1
  | .held _ => 1
def uptoBulkAll {H : Type} : List (DataW H) → Nat
  | [] => 0
  | d :: r => uptoBulk d + uptoBulkAll r
def uptoBulkEntries {H : Type} : List (Lit × DataW H) → Nat
  | [] => 0
  | x :: r => uptoBulkEntry x + uptoBulkEntries r
def uptoBulkEntry {H : Type} : Lit × DataW H → Nat
  | (.string bytes, d) => bytes.length + uptoBulk d + 1
  | (_, d) => uptoBulk d + 1
 end
def uptoSmall : (H : Type) → List (DataW H) → Bool := fun _ ds => decide (uptoBulkAll ds ≤ 1048576)
def OpenSpec.upto (s : _root_.Go.ChangeSpec) : _root_.Go.OpenSpec := { _root_.Go.OpenSpec.ofChange s with cond := some uptoSmall }

/-- 'signetringlaw16.SkipCalls', WHERE WHAT IT READS IS OF BULK AT MOST 1048576: true; the input reads as it did. -/
def skipCallsUptoRow : OpenClaim := { program := "ythnkhdenkagceaa", sum := "0fac71d9d6ebc8bba75a6772d50f88041f141e46b49d6f9b6cc10385175b4c3b", func := "signetring/signetringlaw16.SkipCalls", spec := "skipCalls", unfollowed := true, recurses := true, apart := false, narrowed := true }
def SkipCallsUptoSaid : Prop := skipCallsUptoRow.holds Try.pinned (OpenSpec.upto skipCallsSpec)

/-- 'signetringlaw16.SkipActs', WHERE WHAT IT READS IS OF BULK AT MOST 1048576: true; the input reads as it did. -/
def skipActsUptoRow : OpenClaim := { program := "ythnkhdenkagceaa", sum := "0fac71d9d6ebc8bba75a6772d50f88041f141e46b49d6f9b6cc10385175b4c3b", func := "signetring/signetringlaw16.SkipActs", spec := "skipActs", unfollowed := true, recurses := true, apart := false, narrowed := true }
def SkipActsUptoSaid : Prop := skipActsUptoRow.holds Try.pinned (OpenSpec.upto skipActsSpec)

/-- 'signetringlaw16.SkipRow', WHERE WHAT IT READS IS OF BULK AT MOST 1048576: true; the input reads as it did. -/
def skipRowUptoRow : OpenClaim := { program := "ythnkhdenkagceaa", sum := "0fac71d9d6ebc8bba75a6772d50f88041f141e46b49d6f9b6cc10385175b4c3b", func := "signetring/signetringlaw16.SkipRow", spec := "skipRow", unfollowed := true, recurses := true, apart := false, narrowed := true }
def SkipRowUptoSaid : Prop := skipRowUptoRow.holds Try.pinned (OpenSpec.upto skipRowSpec)

/-- 'signetringlaw16.SkipDrops', WHERE WHAT IT READS IS OF BULK AT MOST 1048576: true; the input reads as it did. -/
def skipDropsUptoRow : OpenClaim := { program := "ythnkhdenkagceaa", sum := "0fac71d9d6ebc8bba75a6772d50f88041f141e46b49d6f9b6cc10385175b4c3b", func := "signetring/signetringlaw16.SkipDrops", spec := "skipDrops", unfollowed := true, recurses := true, apart := false, narrowed := true }
def SkipDropsUptoSaid : Prop := skipDropsUptoRow.holds Try.pinned (OpenSpec.upto skipDropsSpec)

/-- 'signetringlaw16.SkipBack', WHERE WHAT IT READS IS OF BULK AT MOST 1048576: true; the input reads as it did. -/
def skipBackUptoRow : OpenClaim := { program := "ythnkhdenkagceaa", sum := "0fac71d9d6ebc8bba75a6772d50f88041f141e46b49d6f9b6cc10385175b4c3b", func := "signetring/signetringlaw16.SkipBack", spec := "skipBack", unfollowed := true, recurses := true, apart := false, narrowed := true }
def SkipBackUptoSaid : Prop := skipBackUptoRow.holds Try.pinned (OpenSpec.upto skipBackSpec)

end Rows
end Go.Proofs.Ythnkhdenkagceaa
