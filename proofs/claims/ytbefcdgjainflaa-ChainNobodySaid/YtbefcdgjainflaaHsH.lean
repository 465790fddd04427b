/- alive. -/
import Derived.Test.YtbefcdgjainflaaHsG
-- TT 3 4 5 39 36 66 93 94 96
-- TOUCH 51 1
set_option linter.unusedVariables false
set_option linter.unusedSectionVars false
set_option linter.unusedSimpArgs false
namespace Go.Proofs.Ytbefcdgjainflaa
open Sx
variable [Inhabited Tabs]
set_option maxRecDepth 100000
set_option maxHeartbeats 4000000
theorem call54 : Callable Try.prog 54 := ⟨_, Try.func54, by kernel_rfl, by kernel_rfl⟩
def abcD : List Int := [186, 120, 22, 191, 143, 1, 207, 234, 65, 65, 64, 222, 93, 174, 34, 35, 176, 3, 97, 163, 150, 23, 122, 156, 180, 16, 255, 97, 242, 0, 21, 173]
end Go.Proofs.Ytbefcdgjainflaa
