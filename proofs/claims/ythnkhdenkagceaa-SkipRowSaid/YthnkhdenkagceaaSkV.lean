/- Skipped keys: the items of other heads, one by one (plain; for SkipDrops' second loop). -/
import Derived.Test.YthnkhdenkagceaaSkT
set_option linter.unusedVariables false
set_option linter.unusedSimpArgs false
namespace Go.Proofs.Ythnkhdenkagceaa
open Sx
set_option maxHeartbeats 1000000
theorem noH_app (h : ByteArray) (a b : List It) : noH h (a ++ b) = noH h a ++ noH h b := List.filter_append ..
theorem noH_one (h : ByteArray) (x : It) : noH h [x] = if sEq x.h h then [] else [x] := by
  rw [noH, List.filter_cons, List.filter_nil, hdB]
  cases sEq x.h h <;> rfl
def atK (h : ByteArray) (S : List It) (k : Nat) : Nat := (noH h (S.take k)).length
theorem atK_stay {h : ByteArray} {S : List It} {k : Nat} (hlt : k < S.length) (hb : sEq S[k].h h = true) : atK h S (k + 1) = atK h S k := by
  rw [atK, List.take_succ_eq_append_getElem hlt, noH_app, noH_one, if_pos hb, List.append_nil]; rfl
theorem atK_go {h : ByteArray} {S : List It} {k : Nat} (hlt : k < S.length) (hb : sEq S[k].h h = false) : atK h S (k + 1) = atK h S k + 1 := by
  rw [atK, List.take_succ_eq_append_getElem hlt, noH_app, noH_one, if_neg (by rw [hb]; simp), List.length_append, List.length_singleton]; rfl
theorem noH_cut {h : ByteArray} {S : List It} {k : Nat} (hlt : k < S.length) (hb : sEq S[k].h h = false) : noH h S = noH h (S.take k) ++ S[k] :: noH h (S.drop (k + 1)) := by
  have e : S = S.take k ++ ([S[k]] ++ S.drop (k + 1)) := by
    rw [List.singleton_append, ← List.drop_eq_getElem_cons hlt, List.take_append_drop]
  have e1 : noH h S = noH h (S.take k ++ ([S[k]] ++ S.drop (k + 1))) := by rw [← e]
  rw [e1, noH_app, noH_app, noH_one, if_neg (by rw [hb]; simp), List.singleton_append]
theorem atK_lt {h : ByteArray} {S : List It} {k : Nat} (hlt : k < S.length) (hb : sEq S[k].h h = false) : atK h S k < (noH h S).length := by
  rw [noH_cut hlt hb, List.length_append, List.length_cons, atK]; omega
theorem atK_get {h : ByteArray} {S : List It} {k : Nat} (hlt : k < S.length) (hb : sEq S[k].h h = false) : ((noH h S).map itV).getD (atK h S k) default = itV S[k] := by
  rw [noH_cut hlt hb, atK, List.map_append, List.map_cons, List.getD_eq_getElem?_getD, List.getElem?_append_right (by simp), List.length_map, Nat.sub_self]; rfl
theorem atK_end (h : ByteArray) (S : List It) : atK h S S.length = (noH h S).length := by
  rw [atK, List.take_length]
theorem noH_len (h : ByteArray) (S : List It) : (noH h S).length ≤ S.length := List.length_filter_le _ _
def anyK (h : ByteArray) (H : List ByteArray) (k : Nat) : Bool := (H.take k).any fun t => sEq t h
theorem anyK_step {h : ByteArray} {H : List ByteArray} {k : Nat} (hlt : k < H.length) : anyK h H (k + 1) = (anyK h H k || sEq H[k] h) := by
  rw [anyK, List.take_succ_eq_append_getElem hlt, List.any_append, List.any_cons, List.any_nil, Bool.or_false]; rfl
theorem anyK_getD {h : ByteArray} {H : List ByteArray} {k : Nat} (hlt : k < H.length) : anyK h H (k + 1) = (anyK h H k || sEq (H.getD k ByteArray.empty) h) := by
  rw [anyK_step hlt, show H.getD k ByteArray.empty = H[k] by simp [List.getD_eq_getElem?_getD, hlt]]
theorem drop_count (h : ByteArray) (S : List It) : (hdK (noH h S) (noH h S).length).length + (if anyK h (hdK S S.length) (hdK S S.length).length then 1 else 0) = (hdK S S.length).length := by
  have := hdA_drop_len h S
  rw [← hdA_any] at this
  rw [anyK, List.take_length]; exact this
theorem apart_get (H : List ByteArray) (hp : H.Pairwise fun a b => sEq a b = false) (i j : Nat) (hi : i < H.length) (hj : j < i) : sEq (H.getD j ByteArray.empty) (H.getD i ByteArray.empty) = false := by
  rw [List.pairwise_iff_getElem] at hp
  have := hp j i (by omega) hi hj
  simpa [List.getD_eq_getElem?_getD, hi, show j < H.length by omega] using this
theorem heads_apart (S : List It) : ∀ i j : Nat, i < (hdK S S.length).length → j < i → sEq ((hdK S S.length).getD j ByteArray.empty) ((hdK S S.length).getD i ByteArray.empty) = false :=
  fun i j => apart_get _ (hdK_nodup S S.length (Nat.le_refl _)) i j
end Go.Proofs.Ythnkhdenkagceaa
