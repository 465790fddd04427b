/- Names of terms, plainly. -/
import Derived.Test.YtbefcdgjainflaaHmM
set_option linter.unusedVariables false
set_option linter.unusedSectionVars false
set_option linter.unusedSimpArgs false
namespace Go.Proofs.Ytbefcdgjainflaa
open Sx
variable [Inhabited Tabs]
set_option maxRecDepth 100000
set_option maxHeartbeats 1000000
/-- A number as eight bytes. -/
def be8 (n : Int) : List Int := (List.range 8).map (nC n)
theorem nC_eq (n : Int) (k : Nat) : nC n k = n / 2 ^ (56 - 8 * k) % 256 := by
  rw [nC, IntKind.wrap_u8]
theorem numK_pad (n : Int) : ∀ k, List.replicate (k - (numK n k).length) 0 ++ numK n k = (List.range k).map (nC n)
  | 0 => rfl
  | k + 1 => by
    have ih := numK_pad n k
    have hl := numK_le n k
    rw [List.range_succ, List.map_append, ← ih, numK]
    split
    · next h =>
      simp only [List.length_append, List.length_singleton, List.map_cons, List.map_nil, List.append_assoc]
      rw [Nat.add_sub_add_right]
    · next h =>
      have h1 : nC n k = 0 := by by_cases h2 : nC n k = 0; exact h2; exact absurd (.inl h2) h
      have h2 : numK n k = [] := by by_cases h3 : numK n k = []; exact h3; exact absurd (.inr h3) h
      simp [h1, h2, List.replicate_succ']
theorem strOf_append (a b : List Int) : strOf (a ++ b) = strOf a ++ strOf b := by
  apply ByteArray.ext
  simp [strOf]
theorem zeroS_eq (n : Nat) : zeroS n = strOf (List.replicate n 0) := by
  apply ByteArray.ext
  simp [strOf, zeroS]
theorem nmS_eq (n : Int) : nmS n = tS ++ (zeroS 20 ++ strOf (be8 n)) := by
  have hl := numK_le n 8
  rw [nmS, be8, ← numK_pad n 8, ByteArray.append_assoc, zeroS_eq, zeroS_eq, ← strOf_append, ← strOf_append, ← List.append_assoc, List.replicate_append_replicate]
  congr 5
  omega
theorem ap_cancel {a b c : ByteArray} (h : a ++ b = a ++ c) : b = c := by
  have := congrArg (fun x : ByteArray => x.data.toList) h
  simp only [ByteArray.data_append, Array.toList_append, List.append_cancel_left_eq] at this
  exact ByteArray.ext (Array.ext' this)
theorem strOf_inj {xs ys : List Int} (hx : ∀ x ∈ xs, 0 ≤ x ∧ x < 256) (hy : ∀ x ∈ ys, 0 ≤ x ∧ x < 256) (h : strOf xs = strOf ys) : xs = ys := by
  have h1 := congrArg (fun s : ByteArray => s.data.toList.map fun b => (b.toNat : Int)) h
  simp only [strOf, List.map_map] at h1
  have e : ∀ zs : List Int, (∀ x ∈ zs, 0 ≤ x ∧ x < 256) → List.map ((fun b : UInt8 => (b.toNat : Int)) ∘ fun n : Int => UInt8.ofNat n.toNat) zs = zs := by
    intro zs hz
    conv => rhs; rw [← List.map_id zs]
    apply List.map_congr_left
    intro z hq
    have := hz z hq
    simp
    omega
  rw [e xs hx, e ys hy] at h1
  exact h1
theorem be8_bytes (n : Int) : ∀ x ∈ be8 n, 0 ≤ x ∧ x < 256 := by
  intro x hx
  simp only [be8, List.mem_map] at hx
  obtain ⟨k, _, rfl⟩ := hx
  rw [nC_eq]; omega
theorem nmS_inj {n m : Int} (hn : 0 ≤ n ∧ n < 65536) (hm : 0 ≤ m ∧ m < 65536) (h : nmS n = nmS m) : n = m := by
  rw [nmS_eq, nmS_eq] at h
  have h1 := strOf_inj (be8_bytes n) (be8_bytes m) (ap_cancel (ap_cancel h))
  simp only [be8, List.range, List.range.loop, List.map_cons, List.map_nil, nC_eq, List.cons.injEq] at h1
  simp at h1
  omega
theorem nmS_size (n : Int) : (nmS n).size = 32 := by
  rw [nmS_eq]
  simp [ByteArray.size_append, strOf_size, be8]
  rfl
/-- The number of a term in a list. -/
def ixOf (l : List ByteArray) (s : ByteArray) : Option Nat := l.findIdx? (· == s)
theorem beq_bytes {a b : ByteArray} : (a == b) = true ↔ a = b := by
  constructor
  · intro h
    have h' : (a.data == b.data) = true := h
    exact ByteArray.ext (eq_of_beq h')
  · rintro rfl
    show (a.data == a.data) = true
    exact beq_self_eq_true _
theorem ixOf_none {l : List ByteArray} {s : ByteArray} (h : ixOf l s = none) : ∀ x ∈ l, x ≠ s := by
  intro x hx hq
  rw [ixOf, List.findIdx?_eq_none_iff] at h
  have := h x hx
  rw [beq_bytes.2 hq] at this
  cases this
theorem kvGet_zip (s : ByteArray) : ∀ (l : List ByteArray) (k : Nat), kvGet ((l.zipIdx k).map fun p => (p.1, .str (nmS ((p.2 + 1 : Nat) : Int)))) s = (ixOf l s).map fun i => .str (nmS ((k + i + 1 : Nat) : Int))
  | [], k => rfl
  | a :: l, k => by
    rw [List.zipIdx_cons, List.map_cons, kvGet, kvGet_zip s l (k + 1)]
    simp only [ixOf, List.findIdx?_cons]
    split
    · next h => simp [h]
    · next h =>
      have : (a == s) = false := by simpa using h
      simp only [this, Bool.false_eq_true, if_false, Option.map_map, ixOf]
      congr 1
      funext i
      simp only [Function.comp]
      congr 3
      omega
theorem nmL_get (l : List ByteArray) (s : ByteArray) : kvGet (nmL l) s = (ixOf l s).map fun i => .str (nmS ((i + 1 : Nat) : Int)) := by
  rw [nmL, kvGet_zip]
  simp
theorem kvGet_none {l : List (ByteArray × Kv)} {s : ByteArray} (h : ∀ p ∈ l, p.1 ≠ s) : kvGet l s = none := by
  induction l with
  | nil => rfl
  | cons p l ih =>
    obtain ⟨k, v⟩ := p
    rw [kvGet, if_neg (fun q => h _ (List.mem_cons_self ..) (beq_bytes.1 q)), ih (fun p hp => h p (List.mem_cons_of_mem _ hp))]
theorem tmL_new (l : List ByteArray) (hl : l.length < 1000) : kvGet (tmL l) (nmS ((l.length + 1 : Nat) : Int)) = none := by
  refine kvGet_none (fun p hp hq => ?_)
  simp only [tmL, List.mem_map, List.mem_zipIdx_iff_getElem?] at hp
  obtain ⟨⟨a, i⟩, hi, rfl⟩ := hp
  have hi' : l[i]? = some a := hi
  have hlt := (List.getElem?_eq_some_iff.1 hi').1
  have := nmS_inj (by simp; omega) (by omega) hq
  simp at this
  omega
/-- Of the names that there are each has its term. -/
theorem tmL_have (s : ByteArray) : ∀ (l : List ByteArray) (k i : Nat), k + l.length < 1000 → i < l.length → s = nmS ((k + i + 1 : Nat) : Int) → kvGet ((l.zipIdx k).map fun p => (nmS ((p.2 + 1 : Nat) : Int), .str p.1)) s = (l[i]?).map Kv.str
  | [], k, i, h1, h2, h3 => by simp at h2
  | a :: l, k, i, h1, h2, h3 => by
    rw [List.zipIdx_cons, List.map_cons, kvGet]
    simp only [List.length_cons] at h1 h2
    cases i with
    | zero => rw [if_pos (beq_bytes.2 (by rw [h3]))]; simp
    | succ i =>
      rw [if_neg (fun q => by
        have := beq_bytes.1 q
        rw [h3] at this
        have := nmS_inj (by omega) (by omega) this
        omega), tmL_have s l (k + 1) i (by omega) (by omega) (by rw [h3, show k + 1 + i + 1 = k + (i + 1) + 1 from by omega])]
      try simp
theorem tmL_get (l : List ByteArray) (hl : l.length < 1000) (i : Nat) (hi : i < l.length) : kvGet (tmL l) (nmS ((i + 1 : Nat) : Int)) = some (.str l[i]) := by
  have h := tmL_have (nmS ((i + 1 : Nat) : Int)) l 0 i (by omega) hi (by simp)
  rw [List.getElem?_eq_getElem hi] at h
  exact h
theorem tmL_none (l : List ByteArray) (s : ByteArray) (h : ∀ i : Nat, i < l.length → s ≠ nmS ((i + 1 : Nat) : Int)) : kvGet (tmL l) s = none := by
  refine kvGet_none (fun p hp hq => ?_)
  simp only [tmL, List.mem_map, List.mem_zipIdx_iff_getElem?] at hp
  obtain ⟨⟨a, i⟩, hi, rfl⟩ := hp
  have hi' : l[i]? = some a := hi
  exact h i (List.getElem?_eq_some_iff.1 hi').1 hq.symm
end Go.Proofs.Ytbefcdgjainflaa
