/- What all texts of this seat share. -/
import Derived.Test.YtbefcdgjainflaaHtTy
import Derived.Test.YtbefcdgjainflaaHpB
import Derived.Test.YtbefcdgjainflaaSxW
import Derived.Laws.BitsLemmas
set_option linter.unusedVariables false
set_option linter.unusedSectionVars false
set_option linter.unusedSimpArgs false
namespace Go.Proofs.Ytbefcdgjainflaa
open Sx
/-- The tables of the digest: nothing is known of what is in them. -/
structure Tabs where
  st : List Int
  kt : List Int
  st_len : st.length = 8
  kt_len : kt.length = 64
  st_rg : ∀ x ∈ st, 0 ≤ x ∧ x < 4294967296
variable [Inhabited Tabs]
def startL : List Int := (default : Tabs).st
def constL : List Int := (default : Tabs).kt
def G : Nat → Option AV := fun g => if g = 0 then some (.agg [.ints .u32 8 startL]) else if g = 1 then some (.agg [.ints .u32 64 constL]) else none
theorem mix : Try.prog.follows .mixedOrders = true := by kernel_rfl
theorem wrap_up (k : Nat) (h : k < 9223372036854775807) : IntKind.i64.wrap ((k : Int) + 1) = ((k + 1 : Nat) : Int) := by
  rw [IntKind.wrap_i64]; omega
theorem startL_len : startL.length = 8 := (default : Tabs).st_len
theorem constL_len : constL.length = 64 := (default : Tabs).kt_len
end Go.Proofs.Ytbefcdgjainflaa
