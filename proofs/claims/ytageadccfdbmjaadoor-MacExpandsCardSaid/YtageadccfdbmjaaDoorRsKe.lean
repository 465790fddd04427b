/- The document's constants are the code's. -/
import Derived.Test.YtageadccfdbmjaaDoorRsKa
import Derived.Test.YtageadccfdbmjaaDoorRsKb
import Derived.Test.YtageadccfdbmjaaDoorRsKc
import Derived.Test.YtageadccfdbmjaaDoorRsKd
set_option linter.unusedVariables false
set_option linter.unusedSimpArgs false
namespace Go.Proofs.YtageadccfdbmjaaDoor
open Sx
set_option maxRecDepth 1000000
theorem const_roots : pl64.map (fun p => rootN p 3) = constL := by
  simp only [pl64, constL, List.map_cons, List.map_nil, cr0, cr1, cr2, cr3, cr4, cr5, cr6, cr7, cr8, cr9, cr10, cr11, cr12, cr13, cr14, cr15, cr16, cr17, cr18, cr19, cr20, cr21, cr22, cr23, cr24, cr25, cr26, cr27, cr28, cr29, cr30, cr31, cr32, cr33, cr34, cr35, cr36, cr37, cr38, cr39, cr40, cr41, cr42, cr43, cr44, cr45, cr46, cr47, cr48, cr49, cr50, cr51, cr52, cr53, cr54, cr55, cr56, cr57, cr58, cr59, cr60, cr61, cr62, cr63]
theorem start_roots : (pl64.take 8).map (fun p => rootN p 2) = startL := by
  simp only [pl64, startL, List.map_cons, List.map_nil, List.take_succ_cons, List.take_zero, sr0, sr1, sr2, sr3, sr4, sr5, sr6, sr7]
end Go.Proofs.YtageadccfdbmjaaDoor
