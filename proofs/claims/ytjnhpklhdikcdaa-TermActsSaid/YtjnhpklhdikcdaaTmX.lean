/- Tables: contracts under other names; a table of five terms. -/
import Derived.Test.YtjnhpklhdikcdaaTmW
set_option linter.unusedVariables false
set_option linter.unusedSimpArgs false
namespace Go.Proofs.Ytjnhpklhdikcdaa
open Sx
set_option maxRecDepth 100000
set_option maxHeartbeats 1000000
theorem tbX_swG (X Y Z : Nat) (hX : 2 < X) (hY : 2 < Y) (l : List ByteArray) : enMap (swp X Y) (tbX Z l) = tbX (swp X Y Z) l := by
  have h0 : ¬ (0 : Nat) = X := by omega
  have h1 : ¬ (1 : Nat) = X := by omega
  have h2 : ¬ (2 : Nat) = X := by omega
  have g0 : ¬ (0 : Nat) = Y := by omega
  have g1 : ¬ (1 : Nat) = Y := by omega
  have g2 : ¬ (2 : Nat) = Y := by omega
  simp [tbX, enMap, Ent.map, AV.map, AV.mapL, Row.map]
  simp [swp, h0, h1, h2, g0, g1, g2]
/-- No name but the table's. -/
def stay (x : AV) : Prop := ∀ a b : Nat, 2 < a → 2 < b → x.map (swp a b) = x
theorem stay_ptr : stay (.ptr 0 0 0 1) := by
  intro a b ha hb
  have h0 : ¬ (0 : Nat) = a := by omega
  have g0 : ¬ (0 : Nat) = b := by omega
  simp [AV.map, swp, h0, g0]
theorem stay_str (s : ByteArray) : stay (.str s) := fun _ _ _ _ => rfl
theorem stay_lst (s : List ByteArray) : stay (.lstS s) := fun _ _ _ _ => rfl
theorem stay_int (k : IntKind) (n : Int) : stay (.int k n) := fun _ _ _ _ => rfl
theorem stay_sb (s : ByteArray) (b : Bool) : stay (.tup [.str s, .bool b]) := fun _ _ _ _ => rfl
theorem stays {l : List AV} (h : ∀ x ∈ l, stay x) (a b : Nat) (ha : 2 < a) (hb : 2 < b) : l.map (AV.map (swp a b)) = l := by
  conv => rhs; rw [← List.map_id l]
  apply List.map_congr_left
  intro x hx
  exact h x hx a b ha hb
theorem renT {f : Nat} {args : List AV} {r : AV} {l l' : List ByteArray} (X Y : Nat) (hX : 2 < X) (hY : 2 < Y) (hXY : X ≠ Y) (hX9 : X ≠ 992) (ha : ∀ x ∈ args, stay x) (hr : stay r) (h : FnR Try.prog G f args (tbX 3 l) r (tbX 992 l')) : FnR Try.prog G f args (tbX X l) r (tbX Y l') := by
  have h1 := h.swap 3 X
  rw [stays ha 3 X (by omega) hX, hr 3 X (by omega) hX, tbX_swG 3 X 3 (by omega) hX, tbX_swG 3 X 992 (by omega) hX, show swp 3 X 3 = X from by simp [swp], show swp 3 X 992 = 992 from by simp [swp]; omega] at h1
  by_cases hq : Y = 992
  · subst hq; exact h1
  · have g0 : ¬ (0 : Nat) = Y := by omega
    have g1 : ¬ (1 : Nat) = Y := by omega
    have g2 : ¬ (2 : Nat) = Y := by omega
    have h2 := h1.out 992 Y (by simp [tbX, Nm, lk, g0, g1, g2, hXY]) (by simp [tbX, Nm, lk, g0, g1, g2]; omega)
    rw [hr 992 Y (by omega) hY, tbX_swG 992 Y 992 (by omega) hY, show swp 992 Y 992 = Y from by simp [swp]] at h2
    exact h2
/-- The same, the table left as it was. -/
theorem renS {f : Nat} {args : List AV} {r : AV} {l l' : List ByteArray} (X : Nat) (hX : 2 < X) (ha : ∀ x ∈ args, stay x) (hr : stay r) (h : FnR Try.prog G f args (tbX 3 l) r (tbX 3 l')) : FnR Try.prog G f args (tbX X l) r (tbX X l') := by
  have h1 := h.swap 3 X
  rw [stays ha 3 X (by omega) hX, hr 3 X (by omega) hX, tbX_swG 3 X 3 (by omega) hX, tbX_swG 3 X 3 (by omega) hX, show swp 3 X 3 = X from by simp [swp]] at h1
  exact h1
def tA : ByteArray := { data := #[97] }
def tB : ByteArray := { data := #[98] }
def e1 : ByteArray := encS 1 [tA]
def e2 : ByteArray := encS 1 [tB]
def e3 : ByteArray := encS 2 [nmS 1]
def e4 : ByteArray := encS 3 [nmS 1, nmS 2]
def e5 : ByteArray := encS 2 [nmS 2]
theorem ok1 (s : ByteArray) (h : s.size ≤ 4000) : okP [s] := by intro x hx; rw [List.mem_singleton.1 hx]; exact h
theorem okn (n : Int) : okP [nmS n] := ok1 _ (by rw [nmS_size]; omega)
theorem okn2 (n m : Int) : okP [nmS n, nmS m] := by
  intro x hx
  rcases List.mem_cons.1 hx with rfl | hx
  · rw [nmS_size]; omega
  · rw [List.mem_singleton.1 hx, nmS_size]; omega
theorem put_none {l : List ByteArray} {kind : Nat} {ps : List ByteArray} (h : okP ps) (hi : ixOf l (encS kind ps) = none) : putN l kind ps = nmS ((l.length + 1 : Nat) : Int) ∧ putL l kind ps = l ++ [encS kind ps] := by
  rw [putN, putL, if_pos h, if_pos h, hi]; exact ⟨rfl, rfl⟩
theorem put_some {l : List ByteArray} {kind : Nat} {ps : List ByteArray} {i : Nat} (h : okP ps) (hi : ixOf l (encS kind ps) = some i) : putN l kind ps = nmS ((i + 1 : Nat) : Int) ∧ putL l kind ps = l := by
  rw [putN, putL, if_pos h, if_pos h, hi]; exact ⟨rfl, rfl⟩
theorem i2 : ixOf [e1] (encS 1 [tB]) = none := by kernel_rfl
theorem i3 : ixOf [e1, e2] (encS 2 [nmS 1]) = none := by kernel_rfl
theorem i4 : ixOf [e1, e2, e3] (encS 3 [nmS 1, nmS 2]) = none := by kernel_rfl
theorem i5 : ixOf [e1, e2, e3, e4] (encS 2 [nmS 2]) = none := by kernel_rfl
theorem i6 : ixOf [e1, e2, e3, e4, e5] (encS 3 [nmS 1, nmS 2]) = some 3 := by kernel_rfl
theorem i7 : ixOf [e1, e2, e3, e4, e5] (encS 1 [tA]) = some 0 := by kernel_rfl
theorem s21 : srt (nmS 2) (nmS 1) = [nmS 1, nmS 2] := by
  have : Op.bytesLess (nmS 1).toList (nmS 2).toList = true := by kernel_rfl
  rw [srt, if_pos this]
theorem s12 : srt (nmS 1) (nmS 2) = [nmS 1, nmS 2] := by
  have : Op.bytesLess (nmS 2).toList (nmS 1).toList = false := by kernel_rfl
  rw [srt, if_neg (by rw [this]; simp)]
end Go.Proofs.Ytjnhpklhdikcdaa
