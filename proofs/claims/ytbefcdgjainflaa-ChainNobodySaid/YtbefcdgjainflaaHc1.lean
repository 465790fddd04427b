/- The function of slices.Chunk: what a range over it gives, one by one. -/
import Derived.RangeFuncBox
import Derived.RangeFuncLeaves
import Derived.Shelf.Abstract
import Derived.WalkKit
import Derived.OwnWalkIn
import Derived.TacticsInMore
import Derived.LoopNIn
import Derived.LoopIn
import Derived.Test.YtbefcdgjainflaaProg
namespace Go.Proofs.Ytbefcdgjainflaa
open Go.RowKit Go.Shelf
set_option maxRecDepth 100000 in
set_option maxHeartbeats 4000000 in
theorem chunk1 (l : Nat) (p1 p2 a : Addr) (cap : Nat) (n : Nat) (hn : n ≤ 3) (hcap : 32 * n ≤ cap) (J : Nat → World → Prop) (W : World)
    (h1 : ∀ k W, J k W → W.cell? p1 = some (.slice (some a) (32 * n) cap) ∧ W.cell? p2 = some (.int .i64 32))
    (hd : ∀ k W, J k W → J k W.drew)
    (hY : ∀ k W, J k W → k < n → YieldAt Fence.wide 0 Try.prog l #[.slice (some (a.add (32 * k))) 32 32] W fun e W' => e = .returned (.bool true) ∧ J (k + 1) W') (h0 : J 0 W) :
    CallsIn Fence.wide 0 Try.prog 49 #[.func (.yield l) #[] #[], .pointer (some p1), .pointer (some p2)] W fun e W' => (∃ v, e = .returned v) ∧ J n W' := by
  refine callsIn_of_wp Try.func49 rfl trivial ?_ rfl
  simp only [Try.ntmps49, List.size_toArray, List.length_cons, List.length_nil, Nat.reduceAdd, Nat.reduceSub, Array.replicate_succ, Array.replicate_zero, List.push_toArray, List.append_toArray, List.nil_append, List.cons_append]
  gi_wp2
  gi_loopw [4] (fun i wr => ∃ k : Nat, k ≤ n ∧ i = .int .i64 (32 * k : Nat) ∧ J k wr)
    (fun i _ => 32 * n - (intOf i).toNat)
  case atStart => exact ⟨0, Nat.zero_le _, rfl, h0⟩
  case round =>
    obtain ⟨k, hk, rfl, hJs⟩ := hrel
    obtain ⟨c1, c2⟩ := h1 k wr hJs
    by_cases hlt : k < n
    · have hJd := hd k wr hJs
      obtain ⟨fn, tmps, assign, body, hy, hR⟩ := hY k _ hJd hlt
      obtain ⟨d1, d2⟩ := h1 k _ hJd
      gi_wp2
      gi_region
      all_goals gi_wp2
      refine ⟨rfl, hR.mono ?_⟩
      rintro e W3 ⟨rfl, hJ3⟩
      obtain ⟨e1, e2⟩ := h1 _ W3 hJ3
      gi_wp2
      go_roundw
      case rel => exact ⟨k + 1, by omega, by simp; omega, hJ3⟩
      case measure => simp [intOf]; omega
    · obtain rfl : k = n := by omega
      gi_wp2
      go_end0
      exact ⟨⟨_, rfl⟩, hJs⟩
end Go.Proofs.Ytbefcdgjainflaa
