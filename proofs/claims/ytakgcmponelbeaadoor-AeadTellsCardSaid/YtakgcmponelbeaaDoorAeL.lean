/- What the variable holds when a call begins. -/
import Derived.Test.YtakgcmponelbeaaDoorAeB
import Derived.Test.YtakgcmponelbeaaDoorSxW
import Derived.Test.YtakgcmponelbeaaDoorRows
import Derived.ProofKit
import Derived.LaidMore
import Derived.OpenShut
import Derived.Stop.Joined
import Derived.Lib.LaidTab
set_option linter.unusedVariables false
set_option linter.unusedSimpArgs false
namespace Go.Proofs.YtakgcmponelbeaaDoor
open Go.ChangeShapes Go.WideShapes Go.ChangeAt Go.RowKit
open Sx
theorem Tryd.own : ownKnob Tryd.prog.godebug = none := by kernel_rfl
theorem Tryd.laidOut : laidOutB Tryd.prog = true := by kernel_rfl
def laidL : List (String × DataW Unit) := [("signetring/stream.first", Rows.laid_signetring_stream_first)]
theorem gFirst : Tryd.prog.globalNamed "signetring/stream.first" = some 0 := by kernel_rfl
theorem tFirst : (Tryd.prog.globals[0]?).map (·.type) = some 61 := by kernel_rfl
theorem door_met (os : Os) (args : Array Value) : laidMetH Tryd.prog laidL ((World.doorLaid Tryd.prog 14 os).forCall (fun _ _ => 0) ⟨#[], args, []⟩).memory :=
  laidMetH_of_parts3 (fuel := 8) (laidMet_of_run' 8 (by kernel_rfl) (by kernel_rfl)) (by kernel_rfl) (by kernel_rfl)
theorem of_laid {W : World} (h : laidMetH Tryd.prog laidL W) : GL G id (fun b => b < W.heap.size) W := by
  rw [MakeChecks.laidMetH_plain _ _ _ (by kernel_rfl)] at h
  have hT : Lib.TabIs Tryd.prog W "signetring/stream.first" .u32 firstL := Lib.tabIs_of_head gFirst tFirst Tryd.underlying61 Tryd.underlying38 (by kernel_rfl) (by kernel_rfl) h
  intro g x hx
  unfold G at hx
  split at hx
  · next hg =>
    subst hg
    cases hx
    have hcell : ∀ i, i < firstL.length → W.cell? ⟨0, i, none⟩ = some (.int .u32 (firstL.getD i 0)) := fun i hi => hT.cell gFirst i hi
    have hlt : 0 < W.heap.size := by
      have := hcell 0 (by decide)
      unfold World.cell? at this
      split at this
      · next hh => exact (Array.getElem?_eq_some_iff.1 hh).1
      · cases this
    refine .pel (cs := firstL.map (Value.int .u32)) (RC.mk1 (.ints rfl)) hlt (fun j u hj => ?_)
    rw [List.getElem?_map, Option.map_eq_some_iff] at hj
    obtain ⟨y, hy, rfl⟩ := hj
    have hl := (List.getElem?_eq_some_iff.1 hy).1
    rw [Nat.zero_add, hcell j hl]
    rw [List.getD_eq_getElem?_getD, hy]
    rfl
  · cases hx
end Go.Proofs.YtakgcmponelbeaaDoor
