/- The document's constants, roots 48 to 63. -/
import Derived.Test.YtageadccfdbmjaaDoorRsJ
set_option linter.unusedVariables false
set_option linter.unusedSimpArgs false
namespace Go.Proofs.YtageadccfdbmjaaDoor
open Sx
set_option maxRecDepth 1000000
set_option maxHeartbeats 0
theorem cr48 : rootN 227 3 = 430227734 := rt_of (by kernel_rfl) (by kernel_rfl)
theorem cr49 : rootN 229 3 = 506948616 := rt_of (by kernel_rfl) (by kernel_rfl)
theorem cr50 : rootN 233 3 = 659060556 := rt_of (by kernel_rfl) (by kernel_rfl)
theorem cr51 : rootN 239 3 = 883997877 := rt_of (by kernel_rfl) (by kernel_rfl)
theorem cr52 : rootN 241 3 = 958139571 := rt_of (by kernel_rfl) (by kernel_rfl)
theorem cr53 : rootN 251 3 = 1322822218 := rt_of (by kernel_rfl) (by kernel_rfl)
theorem cr54 : rootN 257 3 = 1537002063 := rt_of (by kernel_rfl) (by kernel_rfl)
theorem cr55 : rootN 263 3 = 1747873779 := rt_of (by kernel_rfl) (by kernel_rfl)
theorem cr56 : rootN 269 3 = 1955562222 := rt_of (by kernel_rfl) (by kernel_rfl)
theorem cr57 : rootN 271 3 = 2024104815 := rt_of (by kernel_rfl) (by kernel_rfl)
theorem cr58 : rootN 277 3 = 2227730452 := rt_of (by kernel_rfl) (by kernel_rfl)
theorem cr59 : rootN 281 3 = 2361852424 := rt_of (by kernel_rfl) (by kernel_rfl)
theorem cr60 : rootN 283 3 = 2428436474 := rt_of (by kernel_rfl) (by kernel_rfl)
theorem cr61 : rootN 293 3 = 2756734187 := rt_of (by kernel_rfl) (by kernel_rfl)
theorem cr62 : rootN 307 3 = 3204031479 := rt_of (by kernel_rfl) (by kernel_rfl)
theorem cr63 : rootN 311 3 = 3329325298 := rt_of (by kernel_rfl) (by kernel_rfl)
end Go.Proofs.YtageadccfdbmjaaDoor
