/- Skipped keys: keys put one behind the other, and taken in whatever order (plain; for SkipRow). -/
import Derived.Test.YthnkhdenkagceaaSkb
set_option linter.unusedVariables false
set_option linter.unusedSimpArgs false
namespace Go.Proofs.Ythnkhdenkagceaa
open Sx
set_option maxHeartbeats 1000000
def hR (i : Nat) : ByteArray := strOf [((i % 3 : Nat) : Int)]
def kR (i : Nat) : ByteArray := strOf [(i : Int), 1]
/-- The key that is put as the i-th. -/
def xR (i : Nat) : It := ⟨hR i, i, kR i⟩
theorem toList_two (x y : UInt8) : (⟨#[x, y]⟩ : ByteArray).toList = [x, y] := by
  simp [ByteArray.toList, ByteArray.toList.loop, ByteArray.size, ByteArray.get!]
theorem kR_ne (i : Nat) : sEq (kR i) eS = false := by
  rw [sEq, kR, strOf, beq_eq_false_iff_ne]
  intro h
  rw [show (⟨(List.map (fun n : Int => UInt8.ofNat n.toNat) [(i : Int), 1]).toArray⟩ : ByteArray) = ⟨#[UInt8.ofNat (i : Int).toNat, UInt8.ofNat (1 : Int).toNat]⟩ from rfl, toList_two] at h
  rw [show eS.toList = [] by kernel_rfl] at h
  cases h
theorem badR (i : Nat) : badI (xR i) = false := by
  rw [badI, xR]
  simp only [kR_ne, Bool.or_false, decide_eq_false_iff_not]
  omega
/-- The store when k are put. -/
def roR (k : Nat) : List It := ((List.range k).map xR).drop (k - 40)
theorem roR_len (k : Nat) : (roR k).length = min k 40 := by
  rw [roR, List.length_drop, List.length_map, List.length_range]; omega
theorem roR_mem {k : Nat} {x : It} (h : x ∈ roR k) : ∃ i, i < k ∧ k - 40 ≤ i ∧ x = xR i := by
  rw [roR, List.mem_iff_getElem] at h
  obtain ⟨j, hj, rfl⟩ := h
  rw [List.length_drop, List.length_map, List.length_range] at hj
  refine ⟨k - 40 + j, by omega, by omega, ?_⟩
  simp
theorem roR_has {k i : Nat} (h1 : i < k) (h2 : k - 40 ≤ i) : xR i ∈ roR k := by
  rw [roR, List.mem_iff_getElem]
  refine ⟨i - (k - 40), by rw [List.length_drop, List.length_map, List.length_range]; omega, ?_⟩
  simp only [List.getElem_drop, List.getElem_map, List.getElem_range]
  rw [show k - 40 + (i - (k - 40)) = i by omega]
theorem roR_new (k : Nat) : ¬ 0 ≤ fI (isB (xR k)) (roR k) := by
  rcases fI_spec (isB (xR k)) (roR k) with ⟨h, _⟩ | ⟨f, hf, _, h, _⟩
  · rw [h]; decide
  · exfalso
    obtain ⟨i, h1, _, e⟩ := roR_mem (List.getElem_mem hf)
    rw [e, isB, Bool.and_eq_true, beq_iff_eq] at h
    have := h.2
    simp only [xR] at this
    omega
theorem putR (k : Nat) : putS (roR k) (xR k) = roR (k + 1) ∧ putB (roR k) (xR k) = decide (40 ≤ k) ∧ putE (roR k) (xR k) = 0 := by
  have h1 := badR k
  have h2 := roR_new k
  refine ⟨?_, ?_, ?_⟩
  · rw [putS]
    simp only [h1, h2, decide_false, Bool.or_self, Bool.false_eq_true, if_false]
    rw [roR_len, roR, roR, List.range_succ, List.map_append, List.map_cons, List.map_nil]
    by_cases hk : k < 40
    · rw [show k - 40 = 0 by omega, show k + 1 - 40 = 0 by omega, show min k 40 + 1 - 40 = 0 by omega]; simp
    · rw [show min k 40 + 1 - 40 = 1 by omega, ← List.drop_append_of_le_length (by simp), List.drop_drop, show k - 40 + 1 = k + 1 - 40 by omega]
  · rw [putB, roR_len]
    simp only [h1, h2, decide_false, Bool.or_self, Bool.not_false, Bool.true_and]
    apply decide_eq_decide.2; omega
  · rw [putE]
    simp only [h1, h2, Bool.false_eq_true, if_false]
/-- What is left when some were taken. -/
def lfR (n : Nat) (m : List Int) : List It := (roR n).filter fun x => !m.contains x.n
theorem lfR_uni (n : Nat) (m : List Int) : (lfR n m).Pairwise fun y x => y.n ≠ x.n := by
  refine List.Pairwise.filter _ ?_
  refine List.Pairwise.sublist (List.drop_sublist _ _) ?_
  rw [List.pairwise_map]
  refine List.Pairwise.imp ?_ List.nodup_range
  intro a b hab
  simp only [xR]
  omega
theorem gone (n i : Nat) (m : List Int) (h : ByteArray) (hi : i + 40 < n ∨ m.contains (i : Int) = true) : fT (lfR n m) h i = -1 := by
  rcases fI_spec (isB (qI h (i : Int))) (lfR n m) with ⟨g, _⟩ | ⟨f, hf, _, g, _⟩
  · exact g
  · exfalso
    have hm := List.mem_filter.1 (List.getElem_mem hf)
    obtain ⟨j, h1, h2, e⟩ := roR_mem hm.1
    have h3 := hm.2
    rw [e] at h3
    rw [e, isB, Bool.and_eq_true, beq_iff_eq] at g
    have g2 := g.2
    simp only [xR, qI] at g2 h3
    rw [← g2] at h3
    rcases hi with hi | hi
    · omega
    · rw [hi] at h3; cases h3
theorem cut_at {S : List It} (hu : S.Pairwise fun y x => y.n ≠ x.n) {f : Nat} (hf : f < S.length) : outL S f (f + 1) = S.filter fun x => !(x.n == S[f].n) := by
  have e : S = S.take f ++ S[f] :: S.drop (f + 1) := by
    rw [← List.drop_eq_getElem_cons hf, List.take_append_drop]
  generalize hq : S[f] = y at *
  rw [outL]
  generalize S.take f = A at *
  generalize S.drop (f + 1) = B at *
  subst e
  rw [List.pairwise_append, List.pairwise_cons] at hu
  obtain ⟨_, ⟨h2, _⟩, h3⟩ := hu
  rw [List.filter_append, List.filter_cons]
  have hy : (!(y.n == y.n)) = false := by simp
  rw [hy, if_neg (by simp)]
  congr 1
  · symm; rw [List.filter_eq_self]; intro a ha
    have := h3 a ha y (by simp)
    simpa using this
  · symm; rw [List.filter_eq_self]; intro a ha
    have := h2 a ha
    simpa using fun h => this h.symm
theorem there (n i : Nat) (m : List Int) (h1 : i < n) (h2 : n ≤ i + 40) (hm : m.contains (i : Int) = false) :
    takS (lfR n m) (hR i) i = lfR n (m ++ [(i : Int)]) ∧ takK (lfR n m) (hR i) i = kR i ∧ takE (lfR n m) (hR i) i = 0 ∧ (lfR n (m ++ [(i : Int)])).length + 1 = (lfR n m).length := by
  have hx : xR i ∈ lfR n m := List.mem_filter.2 ⟨roR_has h1 (by omega), by simp only [xR]; rw [hm]; rfl⟩
  have hB : isB (qI (hR i) (i : Int)) (xR i) = true := by simp [isB, qI, xR, sEq]
  rcases fI_spec (isB (qI (hR i) (i : Int))) (lfR n m) with ⟨_, g⟩ | ⟨f, hf, g1, g2, _⟩
  · exact absurd (g _ hx) (by rw [hB]; simp)
  · have e : (lfR n m)[f] = xR i := by
      obtain ⟨j, _, _, e⟩ := roR_mem (List.mem_filter.1 (List.getElem_mem hf)).1
      rw [e, isB, Bool.and_eq_true, beq_iff_eq] at g2
      have := g2.2
      simp only [xR, qI] at this
      rw [e, show j = i by omega]
    have hf' : fT (lfR n m) (hR i) i = (f : Int) := g1
    have hne : ¬ ((f : Int) = -1) := by omega
    have hg : (lfR n m).getD f default = (lfR n m)[f] := by simp [List.getD_eq_getElem?_getD, hf]
    have hcut := cut_at (lfR_uni n m) hf
    rw [e] at hcut
    have hfil : (lfR n m).filter (fun x => !(x.n == (xR i).n)) = lfR n (m ++ [(i : Int)]) := by
      rw [lfR, lfR, List.filter_filter]
      apply List.filter_congr
      intro x _
      simp only [xR, List.contains_append, List.contains_cons, List.contains_nil, Bool.or_false, Bool.not_or]
      rw [Bool.and_comm]
    have hlen := outL_len (lfR n m) f (f + 1) (by omega) (by omega)
    rw [hcut, hfil] at hlen
    refine ⟨?_, ?_, ?_, by omega⟩
    · rw [takS, hf', if_neg hne, Int.toNat_natCast, hcut, hfil]
    · rw [takK, hf', if_neg hne, Int.toNat_natCast, hg, e]; rfl
    · rw [takE, hf', if_neg hne]
/-- Those that were taken behind some orders. -/
def tkR (n : Nat) (l : List Int) : Nat → List Int
  | 0 => []
  | k + 1 => if (l.getD k 0).toNat % n + 40 < n ∨ (tkR n l k).contains (((l.getD k 0).toNat % n : Nat) : Int) = true then tkR n l k else tkR n l k ++ [(((l.getD k 0).toNat % n : Nat) : Int)]
theorem lfR_nil (n : Nat) : lfR n [] = roR n := by
  rw [lfR, List.filter_eq_self]; intro a _; rfl
theorem tkR_len (n : Nat) (l : List Int) (h0 : n ≠ 0) : ∀ k, (lfR n (tkR n l k)).length + (tkR n l k).length = min n 40
  | 0 => by rw [tkR, lfR_nil, roR_len]; simp
  | k + 1 => by
    have ih := tkR_len n l h0 k
    rw [tkR]
    split
    · exact ih
    · rename_i hc
      obtain ⟨_, _, _, h⟩ := there n ((l.getD k 0).toNat % n) (tkR n l k) (Nat.mod_lt _ (by omega)) (by omega) (by
        cases hcc : (tkR n l k).contains (((l.getD k 0).toNat % n : Nat) : Int) with
        | false => rfl
        | true => exact absurd (.inr hcc) hc)
      rw [List.length_append, List.length_singleton]
      omega
end Go.Proofs.Ythnkhdenkagceaa
