/- The document's constants, roots 32 to 47. -/
import Derived.Test.YtageadccfdbmjaaDoorRsJ
set_option linter.unusedVariables false
set_option linter.unusedSimpArgs false
namespace Go.Proofs.YtageadccfdbmjaaDoor
open Sx
set_option maxRecDepth 1000000
set_option maxHeartbeats 0
theorem cr32 : rootN 137 3 = 666307205 := rt_of (by kernel_rfl) (by kernel_rfl)
theorem cr33 : rootN 139 3 = 773529912 := rt_of (by kernel_rfl) (by kernel_rfl)
theorem cr34 : rootN 149 3 = 1294757372 := rt_of (by kernel_rfl) (by kernel_rfl)
theorem cr35 : rootN 151 3 = 1396182291 := rt_of (by kernel_rfl) (by kernel_rfl)
theorem cr36 : rootN 157 3 = 1695183700 := rt_of (by kernel_rfl) (by kernel_rfl)
theorem cr37 : rootN 163 3 = 1986661051 := rt_of (by kernel_rfl) (by kernel_rfl)
theorem cr38 : rootN 167 3 = 2177026350 := rt_of (by kernel_rfl) (by kernel_rfl)
theorem cr39 : rootN 173 3 = 2456956037 := rt_of (by kernel_rfl) (by kernel_rfl)
theorem cr40 : rootN 179 3 = 2730485921 := rt_of (by kernel_rfl) (by kernel_rfl)
theorem cr41 : rootN 181 3 = 2820302411 := rt_of (by kernel_rfl) (by kernel_rfl)
theorem cr42 : rootN 191 3 = 3259730800 := rt_of (by kernel_rfl) (by kernel_rfl)
theorem cr43 : rootN 193 3 = 3345764771 := rt_of (by kernel_rfl) (by kernel_rfl)
theorem cr44 : rootN 197 3 = 3516065817 := rt_of (by kernel_rfl) (by kernel_rfl)
theorem cr45 : rootN 199 3 = 3600352804 := rt_of (by kernel_rfl) (by kernel_rfl)
theorem cr46 : rootN 211 3 = 4094571909 := rt_of (by kernel_rfl) (by kernel_rfl)
theorem cr47 : rootN 223 3 = 275423344 := rt_of (by kernel_rfl) (by kernel_rfl)
end Go.Proofs.YtageadccfdbmjaaDoor
