/- The document's constants, roots 16 to 31. -/
import Derived.Test.YtageadccfdbmjaaDoorRsJ
set_option linter.unusedVariables false
set_option linter.unusedSimpArgs false
namespace Go.Proofs.YtageadccfdbmjaaDoor
open Sx
set_option maxRecDepth 1000000
set_option maxHeartbeats 0
theorem cr16 : rootN 59 3 = 3835390401 := rt_of (by kernel_rfl) (by kernel_rfl)
theorem cr17 : rootN 61 3 = 4022224774 := rt_of (by kernel_rfl) (by kernel_rfl)
theorem cr18 : rootN 67 3 = 264347078 := rt_of (by kernel_rfl) (by kernel_rfl)
theorem cr19 : rootN 71 3 = 604807628 := rt_of (by kernel_rfl) (by kernel_rfl)
theorem cr20 : rootN 73 3 = 770255983 := rt_of (by kernel_rfl) (by kernel_rfl)
theorem cr21 : rootN 79 3 = 1249150122 := rt_of (by kernel_rfl) (by kernel_rfl)
theorem cr22 : rootN 83 3 = 1555081692 := rt_of (by kernel_rfl) (by kernel_rfl)
theorem cr23 : rootN 89 3 = 1996064986 := rt_of (by kernel_rfl) (by kernel_rfl)
theorem cr24 : rootN 97 3 = 2554220882 := rt_of (by kernel_rfl) (by kernel_rfl)
theorem cr25 : rootN 101 3 = 2821834349 := rt_of (by kernel_rfl) (by kernel_rfl)
theorem cr26 : rootN 103 3 = 2952996808 := rt_of (by kernel_rfl) (by kernel_rfl)
theorem cr27 : rootN 107 3 = 3210313671 := rt_of (by kernel_rfl) (by kernel_rfl)
theorem cr28 : rootN 109 3 = 3336571891 := rt_of (by kernel_rfl) (by kernel_rfl)
theorem cr29 : rootN 113 3 = 3584528711 := rt_of (by kernel_rfl) (by kernel_rfl)
theorem cr30 : rootN 127 3 = 113926993 := rt_of (by kernel_rfl) (by kernel_rfl)
theorem cr31 : rootN 131 3 = 338241895 := rt_of (by kernel_rfl) (by kernel_rfl)
end Go.Proofs.YtageadccfdbmjaaDoor
