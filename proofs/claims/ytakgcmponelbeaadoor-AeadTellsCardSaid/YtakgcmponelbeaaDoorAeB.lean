/- What all texts of this seat share. -/
import Derived.Test.YtakgcmponelbeaaDoorAeTy
import Derived.Test.YtakgcmponelbeaaDoorPlB
import Derived.Laws.BitsLemmas
set_option linter.unusedVariables false
set_option linter.unusedSimpArgs false
namespace Go.Proofs.YtakgcmponelbeaaDoor
open Sx
def firstL : List Int := [1634760805, 857760878, 2036477234, 1797285236]
def G : Nat → Option AV := fun g => if g = 0 then some (.agg [.ints .u32 4 firstL]) else none
theorem mix : Tryd.prog.follows .mixedOrders = true := by kernel_rfl
theorem wrap_up (k : Nat) (h : k < 9223372036854775807) : IntKind.i64.wrap ((k : Int) + 1) = ((k + 1 : Nat) : Int) := by
  rw [IntKind.wrap_i64]; omega
end Go.Proofs.YtakgcmponelbeaaDoor
