/- What the variable holds when a call begins. -/
import Derived.Test.YtageadccfdbmjaaDoorShB
import Derived.Test.YtageadccfdbmjaaDoorSxW
import Derived.Test.YtageadccfdbmjaaDoorRows
import Derived.ProofKit
import Derived.LaidMore
import Derived.OpenShut
import Derived.Stop.Joined
import Derived.Stop.LaidErr
import Derived.Lib.LaidTab
set_option linter.unusedVariables false
set_option linter.unusedSimpArgs false
namespace Go.Proofs.YtageadccfdbmjaaDoor
open Go.ChangeShapes Go.WideShapes Go.ChangeAt Go.RowKit
open Sx
theorem Tryd.own : ownKnob Tryd.prog.godebug = none := by kernel_rfl
theorem Tryd.laidOut : laidOutB Tryd.prog = true := by kernel_rfl
def laidL : List (String × DataW Unit) := [("signetring/sha.start", Rows.laid_signetring_sha_start), ("signetring/sha.constants", Rows.laid_signetring_sha_constants)]
theorem gStart : Tryd.prog.globalNamed "signetring/sha.start" = some 0 := by kernel_rfl
theorem tStart : (Tryd.prog.globals[0]?).map (·.type) = some 27 := by kernel_rfl
theorem gConst : Tryd.prog.globalNamed "signetring/sha.constants" = some 1 := by kernel_rfl
theorem tConst : (Tryd.prog.globals[1]?).map (·.type) = some 77 := by kernel_rfl
theorem door_met (os : Os) (args : Array Value) : laidMetH Tryd.prog laidL ((World.doorLaid Tryd.prog 14 os).forCall (fun _ _ => 0) ⟨#[], args, []⟩).memory :=
  laidMetH_of_parts3 (fuel := 8) (laidMet_of_run' 8 (by kernel_rfl) (by kernel_rfl)) (by kernel_rfl) (by kernel_rfl)
theorem tab_pel {W : World} {k : IntKind} {zs : List Int} {g : Nat} (hz : 0 < zs.length) (hcell : ∀ i, i < zs.length → W.cell? ⟨g, i, none⟩ = some (.int k (zs.getD i 0))) :
    RC id (fun b => b < W.heap.size) W NoNm (.pel (.agg [.ints k zs.length zs])) [.pointer (some ⟨g, 0, none⟩)] := by
  have hlt : g < W.heap.size := by
    have := hcell 0 hz
    unfold World.cell? at this
    split at this
    · next hh => exact (Array.getElem?_eq_some_iff.1 hh).1
    · cases this
  refine .pel (cs := zs.map (Value.int k)) (RC.mk1 (.ints rfl)) hlt (fun j u hj => ?_)
  rw [List.getElem?_map, Option.map_eq_some_iff] at hj
  obtain ⟨y, hy, rfl⟩ := hj
  have hl := (List.getElem?_eq_some_iff.1 hy).1
  rw [Nat.zero_add, hcell j hl]
  rw [List.getD_eq_getElem?_getD, hy]
  rfl
theorem lists_of : ∀ {vs : List AV}, (∀ a ∈ vs, ∃ cs, Opn (.slI .u8) cs ∧ a = oneA false cs) → ∃ cs : List (List Int), vs = cs.map (.lstI .u8)
  | [], _ => ⟨[], rfl⟩
  | a :: vs, h => by
    obtain ⟨l, ⟨xs, rfl, _, _⟩, rfl⟩ := h a (by simp)
    obtain ⟨cs, rfl⟩ := lists_of (vs := vs) (fun x hx => h x (by simp [hx]))
    exact ⟨xs :: cs, rfl⟩
theorem of_laid {W : World} (h : laidMetH Tryd.prog laidL W) : GL G id (fun b => b < W.heap.size) W := by
  rw [MakeChecks.laidMetH_plain _ _ _ (by kernel_rfl)] at h
  have hT : Lib.TabIs Tryd.prog W "signetring/sha.start" .u32 startL := Lib.tabIs_of_head gStart tStart Tryd.underlying27 Tryd.underlying26 (by kernel_rfl) (by kernel_rfl) h
  have h2 : laidMet Tryd.prog [("signetring/sha.constants", Rows.laid_signetring_sha_constants)] W := laidMet.tail h
  have hU : Lib.TabIs Tryd.prog W "signetring/sha.constants" .u32 constL := Lib.tabIs_of_head gConst tConst Tryd.underlying77 Tryd.underlying26 (by kernel_rfl) (by kernel_rfl) h2
  intro g x hx
  unfold G at hx
  split at hx
  · next hg =>
    subst hg
    cases hx
    exact tab_pel (zs := startL) (by decide) (fun i hi => hT.cell gStart i hi)
  · split at hx
    · next hg =>
      subst hg
      cases hx
      exact tab_pel (zs := constL) (by decide) (fun i hi => hU.cell gConst i hi)
    · cases hx
end Go.Proofs.YtageadccfdbmjaaDoor
