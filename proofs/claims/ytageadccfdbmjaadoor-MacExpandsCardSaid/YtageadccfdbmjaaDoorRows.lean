/-
  NARROWER THAN 'FOR EVERY INPUT', by the rows' own cells (each row's printed sentence says how): ShaTells: laid · ShaPieces: laid · ShaOwn: laid · ShaLong: laid · ShaValues: laid · MacTells: laid · MacExpands: laid · MacBeginnings: laid · MacFilled: laid · MacLong: laid · MacPieces: laid · MacKeys: laid.
  DERIVED. THE GIVEN ROWS OF THIS SEAT. 12 by the template 'for every input the law returns true; each argument reads behind the call as it read before'; 0 by the template 'total and deterministic' (their statements: YtageadccfdbmjaaDoorTotals.lean).
  GIVEN WITH THE SEED: the statements are not yours to turn. If you find one false, say at which input.
  Laid BY PROGRAM, IN A SANDBOX (cutbox-rows.mjs): the forced cells as the released guide's own fill.sh prints them over the translation 9ea741ad55dfcd91… (all of the seat's roots in one cut). By AI agents, Wed Nov 11 2026. No macro, syntax, notation, axiom, sorry.
-/
import Derived.Test.YtageadccfdbmjaaDoorChecked
import GoSem.Claim
import GoSem.ClaimJoined
import GoSem.ClaimMapViews
import Derived.JoinedTies
import Derived.KernelRfl
namespace Go.Proofs.YtageadccfdbmjaaDoor
/- THE CELL 'sum', in the pinned program and in every row, IS THE sha256 OF THE DUMP (.gsa) THAT YtageadccfdbmjaaDoorProg.lean LOADS. Nothing in Lean hashes anything: it is a label: what it is worth is what the hold of that sum in a sandbox is worth. -/
noncomputable def Tryd.pinned : Pinned := { name := "ytageadccfdbmjaadoor", sum := "9ea741ad55dfcd9183d28f258e9b9935ac88ed17c7e88cd12a77e010117228a0", checked := Tryd.checked }
namespace Rows
def none {H : Type} : Left H := { results := [], args := [] }

/- WHAT THE LISTED PACKAGE-LEVEL VARIABLES READ AS WHEN THE CALL BEGINS. Each datum BY PROGRAM (the guide's laid-datum.mjs) off the statement by which the dump's own 'gosem.cut.vars' lays the variable. In a bare row this is a premise. The card (YtageadccfdbmjaaDoorCards.lean) ties it to the program's text. -/
def laid_signetring_sha_start {H : Type} : DataW H := .agg [.lit (.int .u32 1779033703), .lit (.int .u32 3144134277), .lit (.int .u32 1013904242), .lit (.int .u32 2773480762), .lit (.int .u32 1359893119), .lit (.int .u32 2600822924), .lit (.int .u32 528734635), .lit (.int .u32 1541459225)]
def laid_signetring_sha_constants {H : Type} : DataW H := .agg [.lit (.int .u32 1116352408), .lit (.int .u32 1899447441), .lit (.int .u32 3049323471), .lit (.int .u32 3921009573), .lit (.int .u32 961987163), .lit (.int .u32 1508970993), .lit (.int .u32 2453635748), .lit (.int .u32 2870763221), .lit (.int .u32 3624381080), .lit (.int .u32 310598401), .lit (.int .u32 607225278), .lit (.int .u32 1426881987), .lit (.int .u32 1925078388), .lit (.int .u32 2162078206), .lit (.int .u32 2614888103), .lit (.int .u32 3248222580), .lit (.int .u32 3835390401), .lit (.int .u32 4022224774), .lit (.int .u32 264347078), .lit (.int .u32 604807628), .lit (.int .u32 770255983), .lit (.int .u32 1249150122), .lit (.int .u32 1555081692), .lit (.int .u32 1996064986), .lit (.int .u32 2554220882), .lit (.int .u32 2821834349), .lit (.int .u32 2952996808), .lit (.int .u32 3210313671), .lit (.int .u32 3336571891), .lit (.int .u32 3584528711), .lit (.int .u32 113926993), .lit (.int .u32 338241895), .lit (.int .u32 666307205), .lit (.int .u32 773529912), .lit (.int .u32 1294757372), .lit (.int .u32 1396182291), .lit (.int .u32 1695183700), .lit (.int .u32 1986661051), .lit (.int .u32 2177026350), .lit (.int .u32 2456956037), .lit (.int .u32 2730485921), .lit (.int .u32 2820302411), .lit (.int .u32 3259730800), .lit (.int .u32 3345764771), .lit (.int .u32 3516065817), .lit (.int .u32 3600352804), .lit (.int .u32 4094571909), .lit (.int .u32 275423344), .lit (.int .u32 430227734), .lit (.int .u32 506948616), .lit (.int .u32 659060556), .lit (.int .u32 883997877), .lit (.int .u32 958139571), .lit (.int .u32 1322822218), .lit (.int .u32 1537002063), .lit (.int .u32 1747873779), .lit (.int .u32 1955562222), .lit (.int .u32 2024104815), .lit (.int .u32 2227730452), .lit (.int .u32 2361852424), .lit (.int .u32 2428436474), .lit (.int .u32 2756734187), .lit (.int .u32 3204031479), .lit (.int .u32 3329325298)]

/-- 'signetringlaw03.ShaTells': WHATEVER THE INPUT: true; the input reads as it did. -/
def shaTellsSpec : ChangeSpec := { name := "shaTells", fn := fun _ => fun
  | [d] => { results := [.lit (.bool true)], args := [d] }
  | _ => none }
def shaTellsRow : OpenClaim := { program := "ytageadccfdbmjaadoor", sum := "9ea741ad55dfcd9183d28f258e9b9935ac88ed17c7e88cd12a77e010117228a0", func := "signetring/signetringlaw03.ShaTells", spec := "shaTells", named := ["signetring/sha.start", "signetring/sha.constants"], apart := false, laid := [("signetring/sha.start", laid_signetring_sha_start), ("signetring/sha.constants", laid_signetring_sha_constants)] }
def ShaTellsSaid : Prop := shaTellsRow.holds Tryd.pinned (OpenSpec.ofChange shaTellsSpec)

/-- ITS FALSE NEIGHBOUR: 'it returns false'. Refute it at one input. -/
def shaTellsWrong : ChangeSpec := { name := "shaTells", fn := fun _ => fun
  | [d] => { results := [.lit (.bool false)], args := [d] }
  | _ => none }
def ShaTellsWrongFalsely : Prop := shaTellsRow.holds Tryd.pinned (OpenSpec.ofChange shaTellsWrong)

/-- 'signetringlaw03.ShaPieces': WHATEVER THE INPUT: true; the input reads as it did. -/
def shaPiecesSpec : ChangeSpec := { name := "shaPieces", fn := fun _ => fun
  | [d] => { results := [.lit (.bool true)], args := [d] }
  | _ => none }
def shaPiecesRow : OpenClaim := { program := "ytageadccfdbmjaadoor", sum := "9ea741ad55dfcd9183d28f258e9b9935ac88ed17c7e88cd12a77e010117228a0", func := "signetring/signetringlaw03.ShaPieces", spec := "shaPieces", named := ["signetring/sha.start", "signetring/sha.constants"], apart := false, laid := [("signetring/sha.start", laid_signetring_sha_start), ("signetring/sha.constants", laid_signetring_sha_constants)] }
def ShaPiecesSaid : Prop := shaPiecesRow.holds Tryd.pinned (OpenSpec.ofChange shaPiecesSpec)

/-- ITS FALSE NEIGHBOUR: 'it returns false'. Refute it at one input. -/
def shaPiecesWrong : ChangeSpec := { name := "shaPieces", fn := fun _ => fun
  | [d] => { results := [.lit (.bool false)], args := [d] }
  | _ => none }
def ShaPiecesWrongFalsely : Prop := shaPiecesRow.holds Tryd.pinned (OpenSpec.ofChange shaPiecesWrong)

/-- 'signetringlaw03.ShaOwn': WHATEVER THE INPUT: true; the input reads as it did. -/
def shaOwnSpec : ChangeSpec := { name := "shaOwn", fn := fun _ => fun
  | [d1, d2] => { results := [.lit (.bool true)], args := [d1, d2] }
  | _ => none }
def shaOwnRow : OpenClaim := { program := "ytageadccfdbmjaadoor", sum := "9ea741ad55dfcd9183d28f258e9b9935ac88ed17c7e88cd12a77e010117228a0", func := "signetring/signetringlaw03.ShaOwn", spec := "shaOwn", named := ["signetring/sha.start", "signetring/sha.constants"], apart := false, laid := [("signetring/sha.start", laid_signetring_sha_start), ("signetring/sha.constants", laid_signetring_sha_constants)] }
def ShaOwnSaid : Prop := shaOwnRow.holds Tryd.pinned (OpenSpec.ofChange shaOwnSpec)

/-- ITS FALSE NEIGHBOUR: 'it returns false'. Refute it at one input. -/
def shaOwnWrong : ChangeSpec := { name := "shaOwn", fn := fun _ => fun
  | [d1, d2] => { results := [.lit (.bool false)], args := [d1, d2] }
  | _ => none }
def ShaOwnWrongFalsely : Prop := shaOwnRow.holds Tryd.pinned (OpenSpec.ofChange shaOwnWrong)

/-- 'signetringlaw03.ShaLong': WHATEVER THE INPUT: true; the input reads as it did. -/
def shaLongSpec : ChangeSpec := { name := "shaLong", fn := fun _ => fun
  | [d1, d2] => { results := [.lit (.bool true)], args := [d1, d2] }
  | _ => none }
def shaLongRow : OpenClaim := { program := "ytageadccfdbmjaadoor", sum := "9ea741ad55dfcd9183d28f258e9b9935ac88ed17c7e88cd12a77e010117228a0", func := "signetring/signetringlaw03.ShaLong", spec := "shaLong", named := ["signetring/sha.start", "signetring/sha.constants"], apart := false, laid := [("signetring/sha.start", laid_signetring_sha_start), ("signetring/sha.constants", laid_signetring_sha_constants)] }
def ShaLongSaid : Prop := shaLongRow.holds Tryd.pinned (OpenSpec.ofChange shaLongSpec)

/-- ITS FALSE NEIGHBOUR: 'it returns false'. Refute it at one input. -/
def shaLongWrong : ChangeSpec := { name := "shaLong", fn := fun _ => fun
  | [d1, d2] => { results := [.lit (.bool false)], args := [d1, d2] }
  | _ => none }
def ShaLongWrongFalsely : Prop := shaLongRow.holds Tryd.pinned (OpenSpec.ofChange shaLongWrong)

/-- 'signetringlaw03.ShaValues': WHATEVER THE INPUT: true; the input reads as it did. -/
def shaValuesSpec : ChangeSpec := { name := "shaValues", fn := fun _ => fun
  | [d1, d2] => { results := [.lit (.bool true)], args := [d1, d2] }
  | _ => none }
def shaValuesRow : OpenClaim := { program := "ytageadccfdbmjaadoor", sum := "9ea741ad55dfcd9183d28f258e9b9935ac88ed17c7e88cd12a77e010117228a0", func := "signetring/signetringlaw03.ShaValues", spec := "shaValues", named := ["signetring/sha.start", "signetring/sha.constants"], apart := false, laid := [("signetring/sha.start", laid_signetring_sha_start), ("signetring/sha.constants", laid_signetring_sha_constants)] }
def ShaValuesSaid : Prop := shaValuesRow.holds Tryd.pinned (OpenSpec.ofChange shaValuesSpec)

/-- ITS FALSE NEIGHBOUR: 'it returns false'. Refute it at one input. -/
def shaValuesWrong : ChangeSpec := { name := "shaValues", fn := fun _ => fun
  | [d1, d2] => { results := [.lit (.bool false)], args := [d1, d2] }
  | _ => none }
def ShaValuesWrongFalsely : Prop := shaValuesRow.holds Tryd.pinned (OpenSpec.ofChange shaValuesWrong)

/-- 'signetringlaw04.MacTells': WHATEVER THE INPUT: true; the input reads as it did. -/
def macTellsSpec : ChangeSpec := { name := "macTells", fn := fun _ => fun
  | [d1, d2] => { results := [.lit (.bool true)], args := [d1, d2] }
  | _ => none }
def macTellsRow : OpenClaim := { program := "ytageadccfdbmjaadoor", sum := "9ea741ad55dfcd9183d28f258e9b9935ac88ed17c7e88cd12a77e010117228a0", func := "signetring/signetringlaw04.MacTells", spec := "macTells", unfollowed := true, recurses := true, named := ["signetring/sha.start", "signetring/sha.constants"], apart := false, laid := [("signetring/sha.start", laid_signetring_sha_start), ("signetring/sha.constants", laid_signetring_sha_constants)] }
def MacTellsSaid : Prop := macTellsRow.holds Tryd.pinned (OpenSpec.ofChange macTellsSpec)

/-- ITS FALSE NEIGHBOUR: 'it returns false'. Refute it at one input. -/
def macTellsWrong : ChangeSpec := { name := "macTells", fn := fun _ => fun
  | [d1, d2] => { results := [.lit (.bool false)], args := [d1, d2] }
  | _ => none }
def MacTellsWrongFalsely : Prop := macTellsRow.holds Tryd.pinned (OpenSpec.ofChange macTellsWrong)

/-- 'signetringlaw04.MacExpands': WHATEVER THE INPUT: true; the input reads as it did. -/
def macExpandsSpec : ChangeSpec := { name := "macExpands", fn := fun _ => fun
  | [d1, d2, d3] => { results := [.lit (.bool true)], args := [d1, d2, d3] }
  | _ => none }
def macExpandsRow : OpenClaim := { program := "ytageadccfdbmjaadoor", sum := "9ea741ad55dfcd9183d28f258e9b9935ac88ed17c7e88cd12a77e010117228a0", func := "signetring/signetringlaw04.MacExpands", spec := "macExpands", unfollowed := true, recurses := true, named := ["signetring/sha.start", "signetring/sha.constants"], apart := false, laid := [("signetring/sha.start", laid_signetring_sha_start), ("signetring/sha.constants", laid_signetring_sha_constants)] }
def MacExpandsSaid : Prop := macExpandsRow.holds Tryd.pinned (OpenSpec.ofChange macExpandsSpec)

/-- ITS FALSE NEIGHBOUR: 'it returns false'. Refute it at one input. -/
def macExpandsWrong : ChangeSpec := { name := "macExpands", fn := fun _ => fun
  | [d1, d2, d3] => { results := [.lit (.bool false)], args := [d1, d2, d3] }
  | _ => none }
def MacExpandsWrongFalsely : Prop := macExpandsRow.holds Tryd.pinned (OpenSpec.ofChange macExpandsWrong)

/-- 'signetringlaw04.MacBeginnings': WHATEVER THE INPUT: true; the input reads as it did. -/
def macBeginningsSpec : ChangeSpec := { name := "macBeginnings", fn := fun _ => fun
  | [d1, d2, d3] => { results := [.lit (.bool true)], args := [d1, d2, d3] }
  | _ => none }
def macBeginningsRow : OpenClaim := { program := "ytageadccfdbmjaadoor", sum := "9ea741ad55dfcd9183d28f258e9b9935ac88ed17c7e88cd12a77e010117228a0", func := "signetring/signetringlaw04.MacBeginnings", spec := "macBeginnings", unfollowed := true, recurses := true, named := ["signetring/sha.start", "signetring/sha.constants"], apart := false, laid := [("signetring/sha.start", laid_signetring_sha_start), ("signetring/sha.constants", laid_signetring_sha_constants)] }
def MacBeginningsSaid : Prop := macBeginningsRow.holds Tryd.pinned (OpenSpec.ofChange macBeginningsSpec)

/-- ITS FALSE NEIGHBOUR: 'it returns false'. Refute it at one input. -/
def macBeginningsWrong : ChangeSpec := { name := "macBeginnings", fn := fun _ => fun
  | [d1, d2, d3] => { results := [.lit (.bool false)], args := [d1, d2, d3] }
  | _ => none }
def MacBeginningsWrongFalsely : Prop := macBeginningsRow.holds Tryd.pinned (OpenSpec.ofChange macBeginningsWrong)

/-- 'signetringlaw04.MacFilled': WHATEVER THE INPUT: true; the input reads as it did. -/
def macFilledSpec : ChangeSpec := { name := "macFilled", fn := fun _ => fun
  | [d1, d2, d3] => { results := [.lit (.bool true)], args := [d1, d2, d3] }
  | _ => none }
def macFilledRow : OpenClaim := { program := "ytageadccfdbmjaadoor", sum := "9ea741ad55dfcd9183d28f258e9b9935ac88ed17c7e88cd12a77e010117228a0", func := "signetring/signetringlaw04.MacFilled", spec := "macFilled", unfollowed := true, recurses := true, named := ["signetring/sha.start", "signetring/sha.constants"], apart := false, laid := [("signetring/sha.start", laid_signetring_sha_start), ("signetring/sha.constants", laid_signetring_sha_constants)] }
def MacFilledSaid : Prop := macFilledRow.holds Tryd.pinned (OpenSpec.ofChange macFilledSpec)

/-- ITS FALSE NEIGHBOUR: 'it returns false'. Refute it at one input. -/
def macFilledWrong : ChangeSpec := { name := "macFilled", fn := fun _ => fun
  | [d1, d2, d3] => { results := [.lit (.bool false)], args := [d1, d2, d3] }
  | _ => none }
def MacFilledWrongFalsely : Prop := macFilledRow.holds Tryd.pinned (OpenSpec.ofChange macFilledWrong)

/-- 'signetringlaw04.MacLong': WHATEVER THE INPUT: true; the input reads as it did. -/
def macLongSpec : ChangeSpec := { name := "macLong", fn := fun _ => fun
  | [d1, d2] => { results := [.lit (.bool true)], args := [d1, d2] }
  | _ => none }
def macLongRow : OpenClaim := { program := "ytageadccfdbmjaadoor", sum := "9ea741ad55dfcd9183d28f258e9b9935ac88ed17c7e88cd12a77e010117228a0", func := "signetring/signetringlaw04.MacLong", spec := "macLong", unfollowed := true, recurses := true, named := ["signetring/sha.start", "signetring/sha.constants"], apart := false, laid := [("signetring/sha.start", laid_signetring_sha_start), ("signetring/sha.constants", laid_signetring_sha_constants)] }
def MacLongSaid : Prop := macLongRow.holds Tryd.pinned (OpenSpec.ofChange macLongSpec)

/-- ITS FALSE NEIGHBOUR: 'it returns false'. Refute it at one input. -/
def macLongWrong : ChangeSpec := { name := "macLong", fn := fun _ => fun
  | [d1, d2] => { results := [.lit (.bool false)], args := [d1, d2] }
  | _ => none }
def MacLongWrongFalsely : Prop := macLongRow.holds Tryd.pinned (OpenSpec.ofChange macLongWrong)

/-- 'signetringlaw04.MacPieces': WHATEVER THE INPUT: true; the input reads as it did. -/
def macPiecesSpec : ChangeSpec := { name := "macPieces", fn := fun _ => fun
  | [d1, d2, d3] => { results := [.lit (.bool true)], args := [d1, d2, d3] }
  | _ => none }
def macPiecesRow : OpenClaim := { program := "ytageadccfdbmjaadoor", sum := "9ea741ad55dfcd9183d28f258e9b9935ac88ed17c7e88cd12a77e010117228a0", func := "signetring/signetringlaw04.MacPieces", spec := "macPieces", unfollowed := true, recurses := true, named := ["signetring/sha.start", "signetring/sha.constants"], apart := false, laid := [("signetring/sha.start", laid_signetring_sha_start), ("signetring/sha.constants", laid_signetring_sha_constants)] }
def MacPiecesSaid : Prop := macPiecesRow.holds Tryd.pinned (OpenSpec.ofChange macPiecesSpec)

/-- ITS FALSE NEIGHBOUR: 'it returns false'. Refute it at one input. -/
def macPiecesWrong : ChangeSpec := { name := "macPieces", fn := fun _ => fun
  | [d1, d2, d3] => { results := [.lit (.bool false)], args := [d1, d2, d3] }
  | _ => none }
def MacPiecesWrongFalsely : Prop := macPiecesRow.holds Tryd.pinned (OpenSpec.ofChange macPiecesWrong)

/-- 'signetringlaw04.MacKeys': WHATEVER THE INPUT: true; the input reads as it did. -/
def macKeysSpec : ChangeSpec := { name := "macKeys", fn := fun _ => fun
  | [d1, d2, d3] => { results := [.lit (.bool true)], args := [d1, d2, d3] }
  | _ => none }
def macKeysRow : OpenClaim := { program := "ytageadccfdbmjaadoor", sum := "9ea741ad55dfcd9183d28f258e9b9935ac88ed17c7e88cd12a77e010117228a0", func := "signetring/signetringlaw04.MacKeys", spec := "macKeys", unfollowed := true, recurses := true, named := ["signetring/sha.start", "signetring/sha.constants"], apart := false, laid := [("signetring/sha.start", laid_signetring_sha_start), ("signetring/sha.constants", laid_signetring_sha_constants)] }
def MacKeysSaid : Prop := macKeysRow.holds Tryd.pinned (OpenSpec.ofChange macKeysSpec)

/-- ITS FALSE NEIGHBOUR: 'it returns false'. Refute it at one input. -/
def macKeysWrong : ChangeSpec := { name := "macKeys", fn := fun _ => fun
  | [d1, d2, d3] => { results := [.lit (.bool false)], args := [d1, d2, d3] }
  | _ => none }
def MacKeysWrongFalsely : Prop := macKeysRow.holds Tryd.pinned (OpenSpec.ofChange macKeysWrong)

/- THE SECOND FORM. 'bulk': how many values and letters a reading holds, each counted each time it is reached (what is shared counts as often as it is met; a slice's spare places count too). A statement '..UptoSaid' is the law's where the arguments, and the package variables that the reading takes, are together of bulk at most 1048576: NARROWER than '..Said'. Prove '..Said' where nothing that the law and all that it calls make is longer than what came in: it says more and counts as full. Else prove '..UptoSaid'. A law counts once. -/
mutual
def uptoBulk {H : Type} : DataW H → Nat
  | .lit (.string bytes) => bytes.length + 1
  | .lit _ => 1
  | .nil => 1
  | .ptr d => uptoBulk d + 1
  | .slice elems spare => uptoBulkAll elems + uptoBulkAll spare + 1
  | .agg parts => uptoBulkAll parts + 1
  | .iface _ d => uptoBulk d + 1
  | .map entries => uptoBulkEntries entries + 1
  | .held _ => 1
def uptoBulkAll {H : Type} : List (DataW H) → Nat
  | [] => 0
  | d :: r => uptoBulk d + uptoBulkAll r
def uptoBulkEntries {H : Type} : List (Lit × DataW H) → Nat
  | [] => 0
  | x :: r => uptoBulkEntry x + uptoBulkEntries r
def uptoBulkEntry {H : Type} : Lit × DataW H → Nat
  | (.string bytes, d) => bytes.length + uptoBulk d + 1
  | (_, d) => uptoBulk d + 1
 end
def uptoSmall : (H : Type) → List (DataW H) → Bool := fun _ ds => decide (uptoBulkAll ds ≤ 1048576)
def OpenSpec.upto (s : _root_.Go.ChangeSpec) : _root_.Go.OpenSpec := { _root_.Go.OpenSpec.ofChange s with cond := some uptoSmall }

/-- 'signetringlaw03.ShaTells', WHERE WHAT IT READS IS OF BULK AT MOST 1048576: true; the input reads as it did. -/
def shaTellsUptoRow : OpenClaim := { program := "ytageadccfdbmjaadoor", sum := "9ea741ad55dfcd9183d28f258e9b9935ac88ed17c7e88cd12a77e010117228a0", func := "signetring/signetringlaw03.ShaTells", spec := "shaTells", named := ["signetring/sha.start", "signetring/sha.constants"], apart := false, laid := [("signetring/sha.start", laid_signetring_sha_start), ("signetring/sha.constants", laid_signetring_sha_constants)], narrowed := true }
def ShaTellsUptoSaid : Prop := shaTellsUptoRow.holds Tryd.pinned (OpenSpec.upto shaTellsSpec)

/-- 'signetringlaw03.ShaPieces', WHERE WHAT IT READS IS OF BULK AT MOST 1048576: true; the input reads as it did. -/
def shaPiecesUptoRow : OpenClaim := { program := "ytageadccfdbmjaadoor", sum := "9ea741ad55dfcd9183d28f258e9b9935ac88ed17c7e88cd12a77e010117228a0", func := "signetring/signetringlaw03.ShaPieces", spec := "shaPieces", named := ["signetring/sha.start", "signetring/sha.constants"], apart := false, laid := [("signetring/sha.start", laid_signetring_sha_start), ("signetring/sha.constants", laid_signetring_sha_constants)], narrowed := true }
def ShaPiecesUptoSaid : Prop := shaPiecesUptoRow.holds Tryd.pinned (OpenSpec.upto shaPiecesSpec)

/-- 'signetringlaw03.ShaOwn', WHERE WHAT IT READS IS OF BULK AT MOST 1048576: true; the input reads as it did. -/
def shaOwnUptoRow : OpenClaim := { program := "ytageadccfdbmjaadoor", sum := "9ea741ad55dfcd9183d28f258e9b9935ac88ed17c7e88cd12a77e010117228a0", func := "signetring/signetringlaw03.ShaOwn", spec := "shaOwn", named := ["signetring/sha.start", "signetring/sha.constants"], apart := false, laid := [("signetring/sha.start", laid_signetring_sha_start), ("signetring/sha.constants", laid_signetring_sha_constants)], narrowed := true }
def ShaOwnUptoSaid : Prop := shaOwnUptoRow.holds Tryd.pinned (OpenSpec.upto shaOwnSpec)

/-- 'signetringlaw03.ShaLong', WHERE WHAT IT READS IS OF BULK AT MOST 1048576: true; the input reads as it did. -/
def shaLongUptoRow : OpenClaim := { program := "ytageadccfdbmjaadoor", sum := "9ea741ad55dfcd9183d28f258e9b9935ac88ed17c7e88cd12a77e010117228a0", func := "signetring/signetringlaw03.ShaLong", spec := "shaLong", named := ["signetring/sha.start", "signetring/sha.constants"], apart := false, laid := [("signetring/sha.start", laid_signetring_sha_start), ("signetring/sha.constants", laid_signetring_sha_constants)], narrowed := true }
def ShaLongUptoSaid : Prop := shaLongUptoRow.holds Tryd.pinned (OpenSpec.upto shaLongSpec)

/-- 'signetringlaw03.ShaValues', WHERE WHAT IT READS IS OF BULK AT MOST 1048576: true; the input reads as it did. -/
def shaValuesUptoRow : OpenClaim := { program := "ytageadccfdbmjaadoor", sum := "9ea741ad55dfcd9183d28f258e9b9935ac88ed17c7e88cd12a77e010117228a0", func := "signetring/signetringlaw03.ShaValues", spec := "shaValues", named := ["signetring/sha.start", "signetring/sha.constants"], apart := false, laid := [("signetring/sha.start", laid_signetring_sha_start), ("signetring/sha.constants", laid_signetring_sha_constants)], narrowed := true }
def ShaValuesUptoSaid : Prop := shaValuesUptoRow.holds Tryd.pinned (OpenSpec.upto shaValuesSpec)

/-- 'signetringlaw04.MacTells', WHERE WHAT IT READS IS OF BULK AT MOST 1048576: true; the input reads as it did. -/
def macTellsUptoRow : OpenClaim := { program := "ytageadccfdbmjaadoor", sum := "9ea741ad55dfcd9183d28f258e9b9935ac88ed17c7e88cd12a77e010117228a0", func := "signetring/signetringlaw04.MacTells", spec := "macTells", unfollowed := true, recurses := true, named := ["signetring/sha.start", "signetring/sha.constants"], apart := false, laid := [("signetring/sha.start", laid_signetring_sha_start), ("signetring/sha.constants", laid_signetring_sha_constants)], narrowed := true }
def MacTellsUptoSaid : Prop := macTellsUptoRow.holds Tryd.pinned (OpenSpec.upto macTellsSpec)

/-- 'signetringlaw04.MacExpands', WHERE WHAT IT READS IS OF BULK AT MOST 1048576: true; the input reads as it did. -/
def macExpandsUptoRow : OpenClaim := { program := "ytageadccfdbmjaadoor", sum := "9ea741ad55dfcd9183d28f258e9b9935ac88ed17c7e88cd12a77e010117228a0", func := "signetring/signetringlaw04.MacExpands", spec := "macExpands", unfollowed := true, recurses := true, named := ["signetring/sha.start", "signetring/sha.constants"], apart := false, laid := [("signetring/sha.start", laid_signetring_sha_start), ("signetring/sha.constants", laid_signetring_sha_constants)], narrowed := true }
def MacExpandsUptoSaid : Prop := macExpandsUptoRow.holds Tryd.pinned (OpenSpec.upto macExpandsSpec)

/-- 'signetringlaw04.MacBeginnings', WHERE WHAT IT READS IS OF BULK AT MOST 1048576: true; the input reads as it did. -/
def macBeginningsUptoRow : OpenClaim := { program := "ytageadccfdbmjaadoor", sum := "9ea741ad55dfcd9183d28f258e9b9935ac88ed17c7e88cd12a77e010117228a0", func := "signetring/signetringlaw04.MacBeginnings", spec := "macBeginnings", unfollowed := true, recurses := true, named := ["signetring/sha.start", "signetring/sha.constants"], apart := false, laid := [("signetring/sha.start", laid_signetring_sha_start), ("signetring/sha.constants", laid_signetring_sha_constants)], narrowed := true }
def MacBeginningsUptoSaid : Prop := macBeginningsUptoRow.holds Tryd.pinned (OpenSpec.upto macBeginningsSpec)

/-- 'signetringlaw04.MacFilled', WHERE WHAT IT READS IS OF BULK AT MOST 1048576: true; the input reads as it did. -/
def macFilledUptoRow : OpenClaim := { program := "ytageadccfdbmjaadoor", sum := "9ea741ad55dfcd9183d28f258e9b9935ac88ed17c7e88cd12a77e010117228a0", func := "signetring/signetringlaw04.MacFilled", spec := "macFilled", unfollowed := true, recurses := true, named := ["signetring/sha.start", "signetring/sha.constants"], apart := false, laid := [("signetring/sha.start", laid_signetring_sha_start), ("signetring/sha.constants", laid_signetring_sha_constants)], narrowed := true }
def MacFilledUptoSaid : Prop := macFilledUptoRow.holds Tryd.pinned (OpenSpec.upto macFilledSpec)

/-- 'signetringlaw04.MacLong', WHERE WHAT IT READS IS OF BULK AT MOST 1048576: true; the input reads as it did. -/
def macLongUptoRow : OpenClaim := { program := "ytageadccfdbmjaadoor", sum := "9ea741ad55dfcd9183d28f258e9b9935ac88ed17c7e88cd12a77e010117228a0", func := "signetring/signetringlaw04.MacLong", spec := "macLong", unfollowed := true, recurses := true, named := ["signetring/sha.start", "signetring/sha.constants"], apart := false, laid := [("signetring/sha.start", laid_signetring_sha_start), ("signetring/sha.constants", laid_signetring_sha_constants)], narrowed := true }
def MacLongUptoSaid : Prop := macLongUptoRow.holds Tryd.pinned (OpenSpec.upto macLongSpec)

/-- 'signetringlaw04.MacPieces', WHERE WHAT IT READS IS OF BULK AT MOST 1048576: true; the input reads as it did. -/
def macPiecesUptoRow : OpenClaim := { program := "ytageadccfdbmjaadoor", sum := "9ea741ad55dfcd9183d28f258e9b9935ac88ed17c7e88cd12a77e010117228a0", func := "signetring/signetringlaw04.MacPieces", spec := "macPieces", unfollowed := true, recurses := true, named := ["signetring/sha.start", "signetring/sha.constants"], apart := false, laid := [("signetring/sha.start", laid_signetring_sha_start), ("signetring/sha.constants", laid_signetring_sha_constants)], narrowed := true }
def MacPiecesUptoSaid : Prop := macPiecesUptoRow.holds Tryd.pinned (OpenSpec.upto macPiecesSpec)

/-- 'signetringlaw04.MacKeys', WHERE WHAT IT READS IS OF BULK AT MOST 1048576: true; the input reads as it did. -/
def macKeysUptoRow : OpenClaim := { program := "ytageadccfdbmjaadoor", sum := "9ea741ad55dfcd9183d28f258e9b9935ac88ed17c7e88cd12a77e010117228a0", func := "signetring/signetringlaw04.MacKeys", spec := "macKeys", unfollowed := true, recurses := true, named := ["signetring/sha.start", "signetring/sha.constants"], apart := false, laid := [("signetring/sha.start", laid_signetring_sha_start), ("signetring/sha.constants", laid_signetring_sha_constants)], narrowed := true }
def MacKeysUptoSaid : Prop := macKeysUptoRow.holds Tryd.pinned (OpenSpec.upto macKeysSpec)

end Rows
end Go.Proofs.YtageadccfdbmjaaDoor
