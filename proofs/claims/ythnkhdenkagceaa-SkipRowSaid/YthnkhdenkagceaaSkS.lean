/- Skipped keys: plain laws of the heads. -/
import Derived.Test.YthnkhdenkagceaaSkR
set_option linter.unusedVariables false
set_option linter.unusedSimpArgs false
namespace Go.Proofs.Ythnkhdenkagceaa
open Sx
set_option maxHeartbeats 1000000
theorem sEq_to {a b : ByteArray} (h : sEq a b = true) : a.toList = b.toList := by simpa [sEq] using h
theorem sEq_congr {a b : ByteArray} (h : sEq a b = true) (v : ByteArray) : sEq a v = sEq b v := by
  rw [sEq, sEq, sEq_to h]
theorem hdK_any (l : List It) (v : ByteArray) : ∀ k, k ≤ l.length → (hdK l k).any (fun t => sEq t v) = (l.take k).any fun y => sEq y.h v
  | 0, _ => by simp [hdK]
  | k + 1, hk => by
    have hlt : k < l.length := by omega
    have hg : l.getD k default = l[k] := by simp [List.getD_eq_getElem?_getD, hlt]
    have ih := hdK_any l v k (by omega)
    rw [hdK, hg, List.take_succ_eq_append_getElem hlt, List.any_append, ← ih]
    split
    · rename_i hh
      rw [hasS_any, List.any_eq_true] at hh
      obtain ⟨t, ht, he⟩ := hh
      simp only [List.any_cons, List.any_nil, Bool.or_false]
      cases hv : sEq l[k].h v with
      | false => simp
      | true =>
        rw [Bool.or_true, List.any_eq_true]
        exact ⟨t, ht, by rw [sEq_congr he]; exact hv⟩
    · simp
theorem hdK_nodup (l : List It) : ∀ k, k ≤ l.length → (hdK l k).Pairwise fun a b => sEq a b = false
  | 0, _ => by simp [hdK]
  | k + 1, hk => by
    have ih := hdK_nodup l k (by omega)
    rw [hdK]
    split
    · exact ih
    · rename_i hh
      rw [hasS_any, Bool.not_eq_true, List.any_eq_false] at hh
      rw [List.pairwise_append]
      refine ⟨ih, by simp, fun a ha b hb => ?_⟩
      rw [List.mem_singleton] at hb
      subst hb
      simpa using hh a ha
theorem hdK_pre (l m : List It) : ∀ k, k ≤ l.length → hdK (l ++ m) k = hdK l k
  | 0, _ => rfl
  | k + 1, hk => by
    have hlt : k < l.length := by omega
    have hg : (l ++ m).getD k default = l.getD k default := by
      rw [List.getD_eq_getElem?_getD, List.getD_eq_getElem?_getD, List.getElem?_append_left hlt]
    rw [hdK, hdK, hg, hdK_pre l m k (by omega)]
/-- The heads of a store. -/
def hdA (l : List It) : List ByteArray := hdK l l.length
theorem hdA_snoc (l : List It) (x : It) : hdA (l ++ [x]) = if (hdA l).any (fun t => sEq t x.h) then hdA l else hdA l ++ [x.h] := by
  rw [hdA, List.length_append, List.length_singleton, hdK, hdK_pre l [x] _ (Nat.le_refl _), hasS_any]
  have : (l ++ [x]).getD l.length default = x := by simp [List.getD_eq_getElem?_getD]
  rw [this]; rfl
theorem hdA_any (l : List It) (v : ByteArray) : (hdA l).any (fun t => sEq t v) = l.any fun y => sEq y.h v := by
  rw [hdA, hdK_any l v _ (Nat.le_refl _), List.take_length]
/-- A head dropped is a head less. -/
theorem hdA_drop (h : ByteArray) (l : List It) : hdA (noH h l) = (hdA l).filter fun t => !sEq t h := by
  suffices H : ∀ r : List It, hdA (noH h r.reverse) = (hdA r.reverse).filter fun t => !sEq t h by
    have := H l.reverse; rwa [List.reverse_reverse] at this
  intro r
  induction r with
  | nil => rfl
  | cons x r ih =>
    rw [List.reverse_cons]
    generalize r.reverse = l at *
    have e : noH h (l ++ [x]) = if sEq x.h h then noH h l else noH h l ++ [x] := by
      rw [noH, List.filter_append]
      cases hb : sEq x.h h <;> simp [hdB, hb, noH]
    rw [e, hdA_snoc]
    cases hb : sEq x.h h with
    | true =>
      rw [if_pos rfl, ih]
      split
      · rfl
      · rw [List.filter_append]; simp [hb]
    | false =>
      rw [if_neg (by simp), hdA_snoc, ih]
      have hany : ((hdA l).filter fun t => !sEq t h).any (fun t => sEq t x.h) = (hdA l).any (fun t => sEq t x.h) := by
        rw [Bool.eq_iff_iff, List.any_eq_true, List.any_eq_true]
        constructor
        · rintro ⟨t, ht, he⟩
          exact ⟨t, (List.mem_filter.1 ht).1, he⟩
        · rintro ⟨t, ht, he⟩
          refine ⟨t, List.mem_filter.2 ⟨ht, ?_⟩, he⟩
          rw [sEq_congr he, hb]; rfl
      rw [hany]
      split
      · rfl
      · rw [List.filter_append]; simp [hb]
theorem one_less (h : ByteArray) : ∀ H : List ByteArray, (H.Pairwise fun a b => sEq a b = false) → (H.filter fun t => !sEq t h).length + (if H.any (fun t => sEq t h) then 1 else 0) = H.length
  | [], _ => rfl
  | a :: H, hp => by
    rw [List.pairwise_cons] at hp
    have ih := one_less h H hp.2
    cases hb : sEq a h with
    | true =>
      have hno : H.any (fun t => sEq t h) = false := by
        rw [List.any_eq_false]
        intro t ht he
        have h1 := hp.1 t ht
        rw [sEq_congr hb, sEq_comm, he] at h1
        cases h1
      rw [hno] at ih
      simp only [List.filter_cons, hb, Bool.not_true, Bool.false_eq_true, if_false, List.any_cons, Bool.true_or, if_true, List.length_cons] at ih ⊢
      omega
    | false =>
      simp only [List.filter_cons, hb, Bool.not_false, if_true, List.any_cons, Bool.false_or, List.length_cons] at ih ⊢
      omega
theorem hdA_drop_len (h : ByteArray) (l : List It) : (hdA (noH h l)).length + (if l.any (fun y => sEq y.h h) then 1 else 0) = (hdA l).length := by
  have := one_less h (hdA l) (hdK_nodup l _ (Nat.le_refl _))
  rw [hdA_any] at this
  rw [hdA_drop]; exact this
end Go.Proofs.Ythnkhdenkagceaa
