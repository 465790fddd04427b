/- codec.Join, plainly, and where it refuses. -/
import Derived.Test.YtbefcdgjainflaaHmN
-- TT 3 4 5 9 29 39 30 105 118 120 122
set_option linter.unusedVariables false
set_option linter.unusedSectionVars false
set_option linter.unusedSimpArgs false
namespace Go.Proofs.Ytbefcdgjainflaa
open Sx
variable [Inhabited Tabs]
set_option maxRecDepth 100000
set_option maxHeartbeats 4000000
theorem strOf_bytesOf (s : ByteArray) : strOf (bytesOf s) = s := by
  apply ByteArray.ext
  apply Array.ext'
  simp only [strOf, bytesOf, List.map_map]
  conv => rhs; rw [← List.map_id s.data.toList]
  apply List.map_congr_left
  intro b _
  simp
theorem strOf_wrap (n : Nat) : strOf [IntKind.u8.wrap (n : Int)] = bS n := by
  rw [IntKind.wrap_u8, strOf, bS]
  simp only [List.map_cons, List.map_nil]
  congr 3
  have : (((n : Int) % 256).toNat : Nat) = n % 256 := by omega
  rw [this]
  apply UInt8.toNat_inj.1
  simp
theorem strOf_jS (s : ByteArray) : strOf (jS s) = bS (s.size / 256) ++ (bS s.size ++ s) := by
  have e1 : (2 : Int) ^ min 8 IntKind.i64.bits = 256 := rfl
  have e2 : ((s.size : Int).fdiv 256) = ((s.size / 256 : Nat) : Int) := by rw [Int.fdiv_eq_ediv_of_nonneg _ (by decide)]; simp
  rw [jS, strOf_append, strOf_bytesOf, e1, e2, show ([IntKind.u8.wrap ((s.size / 256 : Nat) : Int), IntKind.u8.wrap (s.size : Int)] : List Int) = [IntKind.u8.wrap ((s.size / 256 : Nat) : Int)] ++ [IntKind.u8.wrap (s.size : Int)] from rfl, strOf_append, strOf_wrap, strOf_wrap, ByteArray.append_assoc]
theorem strOf_flat : ∀ l : List ByteArray, strOf (l.flatMap jS) = rTS l
  | [] => rfl
  | s :: l => by rw [List.flatMap_cons, strOf_append, strOf_jS, strOf_flat l, rTS]; simp only [ByteArray.append_assoc]
theorem enc_eq (kind : Nat) (hk : kind < 256) (l : List ByteArray) : strOf (jP (kind : Nat) l l.length) = encS kind l := by
  have e1 : strOf [1] = bS 1 := rfl
  have e2 : strOf [(kind : Int)] = bS kind := by rw [← strOf_wrap, IntKind.wrap_u8]; congr 2; omega
  rw [jP, List.take_length, strOf_append, strOf_flat, show ([1, (kind : Int), IntKind.u8.wrap (l.length : Int)] : List Int) = [1] ++ ([(kind : Int)] ++ [IntKind.u8.wrap (l.length : Int)]) from rfl, strOf_append, strOf_append, strOf_wrap, e1, e2, encS]
  simp only [ByteArray.append_assoc]
theorem jP_len (kind : Int) : ∀ (l : List ByteArray) (k : Nat), (∀ s ∈ l, s.size ≤ 4000) → l.length ≤ 7 → (jP kind l k).length ≤ 30000 := by
  intro l k h hl
  refine Nat.le_trans (jP_le kind l k) ?_
  rw [jP, List.take_length]
  have : ∀ l : List ByteArray, (∀ s ∈ l, s.size ≤ 4000) → (l.flatMap jS).length ≤ 4002 * l.length := by
    intro l
    induction l with
    | nil => intro _; simp
    | cons s l ih =>
      intro h
      have h1 := ih (fun x hx => h x (List.mem_cons_of_mem _ hx))
      have h2 := h s (List.mem_cons_self ..)
      rw [List.flatMap_cons, List.length_append]
      have : (jS s).length = 2 + s.size := by rw [jS, List.length_append, bytesOf_len]; simp
      simp only [List.length_cons]
      omega
  have := this l h
  simp only [List.length_append, List.length_cons, List.length_nil]
  omega
theorem encS_size (kind : Nat) (hk : kind < 256) (l : List ByteArray) (h : ∀ s ∈ l, s.size ≤ 4000) (hl : l.length ≤ 7) : (encS kind l).size ≤ 30000 := by
  rw [← enc_eq kind hk, strOf_size]
  exact jP_len _ l _ h hl
end Go.Proofs.Ytbefcdgjainflaa
