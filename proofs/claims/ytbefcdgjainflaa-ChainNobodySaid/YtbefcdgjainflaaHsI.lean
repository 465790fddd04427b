/- The statement ShaValues: the walk. -/
import Derived.Test.YtbefcdgjainflaaHsH
-- TT 3 4 5 39 36 66 93 94 96 100
set_option linter.unusedVariables false
set_option linter.unusedSectionVars false
set_option linter.unusedSimpArgs false
namespace Go.Proofs.Ytbefcdgjainflaa
open Sx
variable [Inhabited Tabs]
set_option maxRecDepth 100000
set_option maxHeartbeats 4000000
theorem off_le (n : Nat) : 64 * (n / 64) + (n - 64 * (n / 64)) ≤ n := by omega
/-- Write of what leaves nothing. -/
theorem writeB_no (bs c : List Int) (hb : bs.length ≤ 90000) (h0 : R bs ++ c = []) :
    FnR Try.prog G 51 [.agg [.ints .u32 8 (S bs), .lstI .u8 (R bs), .int .u64 (bs.length : Int)], .lstI .u8 c] []
      (.agg [.ints .u32 8 (S (bs ++ c)), .nils, .int .u64 ((bs ++ c).length : Int)]) [] := by
  obtain ⟨h1, rfl⟩ := List.append_eq_nil_iff.1 h0
  rw [List.append_nil, h1]
  exact writeB_nil bs hb h1
def digV (bs : List Int) : AV := .agg [.ints .u32 8 (S bs), .lstI .u8 (R bs), .int .u64 (bs.length : Int)]
end Go.Proofs.Ytbefcdgjainflaa
