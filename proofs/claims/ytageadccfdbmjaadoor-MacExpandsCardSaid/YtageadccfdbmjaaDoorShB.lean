/- What all texts of this seat share. -/
import Derived.Test.YtageadccfdbmjaaDoorShTy
import Derived.Test.YtageadccfdbmjaaDoorPlB
import Derived.Test.YtageadccfdbmjaaDoorSxW
import Derived.Laws.BitsLemmas
set_option linter.unusedVariables false
set_option linter.unusedSimpArgs false
namespace Go.Proofs.YtageadccfdbmjaaDoor
open Sx
def startL : List Int := [1779033703, 3144134277, 1013904242, 2773480762, 1359893119, 2600822924, 528734635, 1541459225]
def constL : List Int := [1116352408, 1899447441, 3049323471, 3921009573, 961987163, 1508970993, 2453635748, 2870763221, 3624381080, 310598401, 607225278, 1426881987, 1925078388, 2162078206, 2614888103, 3248222580, 3835390401, 4022224774, 264347078, 604807628, 770255983, 1249150122, 1555081692, 1996064986, 2554220882, 2821834349, 2952996808, 3210313671, 3336571891, 3584528711, 113926993, 338241895, 666307205, 773529912, 1294757372, 1396182291, 1695183700, 1986661051, 2177026350, 2456956037, 2730485921, 2820302411, 3259730800, 3345764771, 3516065817, 3600352804, 4094571909, 275423344, 430227734, 506948616, 659060556, 883997877, 958139571, 1322822218, 1537002063, 1747873779, 1955562222, 2024104815, 2227730452, 2361852424, 2428436474, 2756734187, 3204031479, 3329325298]
def G : Nat → Option AV := fun g => if g = 0 then some (.agg [.ints .u32 8 startL]) else if g = 1 then some (.agg [.ints .u32 64 constL]) else none
theorem mix : Tryd.prog.follows .mixedOrders = true := by kernel_rfl
theorem wrap_up (k : Nat) (h : k < 9223372036854775807) : IntKind.i64.wrap ((k : Int) + 1) = ((k + 1 : Nat) : Int) := by
  rw [IntKind.wrap_i64]; omega
theorem startL_len : startL.length = 8 := rfl
theorem constL_len : constL.length = 64 := rfl
end Go.Proofs.YtageadccfdbmjaaDoor
