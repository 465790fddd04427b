/- The document's constants, roots 0 to 15. -/
import Derived.Test.YtageadccfdbmjaaDoorRsJ
set_option linter.unusedVariables false
set_option linter.unusedSimpArgs false
namespace Go.Proofs.YtageadccfdbmjaaDoor
open Sx
set_option maxRecDepth 1000000
set_option maxHeartbeats 0
theorem cr0 : rootN 2 3 = 1116352408 := rt_of (by kernel_rfl) (by kernel_rfl)
theorem cr1 : rootN 3 3 = 1899447441 := rt_of (by kernel_rfl) (by kernel_rfl)
theorem cr2 : rootN 5 3 = 3049323471 := rt_of (by kernel_rfl) (by kernel_rfl)
theorem cr3 : rootN 7 3 = 3921009573 := rt_of (by kernel_rfl) (by kernel_rfl)
theorem cr4 : rootN 11 3 = 961987163 := rt_of (by kernel_rfl) (by kernel_rfl)
theorem cr5 : rootN 13 3 = 1508970993 := rt_of (by kernel_rfl) (by kernel_rfl)
theorem cr6 : rootN 17 3 = 2453635748 := rt_of (by kernel_rfl) (by kernel_rfl)
theorem cr7 : rootN 19 3 = 2870763221 := rt_of (by kernel_rfl) (by kernel_rfl)
theorem cr8 : rootN 23 3 = 3624381080 := rt_of (by kernel_rfl) (by kernel_rfl)
theorem cr9 : rootN 29 3 = 310598401 := rt_of (by kernel_rfl) (by kernel_rfl)
theorem cr10 : rootN 31 3 = 607225278 := rt_of (by kernel_rfl) (by kernel_rfl)
theorem cr11 : rootN 37 3 = 1426881987 := rt_of (by kernel_rfl) (by kernel_rfl)
theorem cr12 : rootN 41 3 = 1925078388 := rt_of (by kernel_rfl) (by kernel_rfl)
theorem cr13 : rootN 43 3 = 2162078206 := rt_of (by kernel_rfl) (by kernel_rfl)
theorem cr14 : rootN 47 3 = 2614888103 := rt_of (by kernel_rfl) (by kernel_rfl)
theorem cr15 : rootN 53 3 = 3248222580 := rt_of (by kernel_rfl) (by kernel_rfl)
theorem sr0 : rootN 2 2 = 1779033703 := rt_of (by kernel_rfl) (by kernel_rfl)
theorem sr1 : rootN 3 2 = 3144134277 := rt_of (by kernel_rfl) (by kernel_rfl)
theorem sr2 : rootN 5 2 = 1013904242 := rt_of (by kernel_rfl) (by kernel_rfl)
theorem sr3 : rootN 7 2 = 2773480762 := rt_of (by kernel_rfl) (by kernel_rfl)
theorem sr4 : rootN 11 2 = 1359893119 := rt_of (by kernel_rfl) (by kernel_rfl)
theorem sr5 : rootN 13 2 = 2600822924 := rt_of (by kernel_rfl) (by kernel_rfl)
theorem sr6 : rootN 17 2 = 528734635 := rt_of (by kernel_rfl) (by kernel_rfl)
theorem sr7 : rootN 19 2 = 1541459225 := rt_of (by kernel_rfl) (by kernel_rfl)
end Go.Proofs.YtageadccfdbmjaaDoor
