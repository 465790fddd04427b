/- A term's form. -/
import Derived.Test.YtbefcdgjainflaaHmH
import Derived.Test.YtbefcdgjainflaaHmG
set_option linter.unusedVariables false
set_option linter.unusedSectionVars false
set_option linter.unusedSimpArgs false
namespace Go.Proofs.Ytbefcdgjainflaa
open Sx
variable [Inhabited Tabs]
set_option maxRecDepth 100000
set_option maxHeartbeats 1000000
def bS (x : Nat) : ByteArray := { data := #[UInt8.ofNat x] }
def rTS : List ByteArray → ByteArray
  | [] => { data := #[] }
  | s :: l => bS (s.size / 256) ++ (bS s.size ++ (s ++ rTS l))
def encS (kind : Nat) (l : List ByteArray) : ByteArray := bS 1 ++ (bS kind ++ (bS l.length ++ rTS l))
end Go.Proofs.Ytbefcdgjainflaa
