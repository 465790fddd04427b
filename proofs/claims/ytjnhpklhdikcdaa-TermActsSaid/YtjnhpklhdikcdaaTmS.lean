/- Tables: the methods' contracts. (printed by genS.py) -/
import Derived.Test.YtjnhpklhdikcdaaTmR
set_option linter.unusedVariables false
set_option linter.unusedSimpArgs false
namespace Go.Proofs.Ytjnhpklhdikcdaa
open Sx
set_option maxRecDepth 100000
set_option maxHeartbeats 1000000
theorem mv1 {f : Nat} {args : List AV} {r : AV} {l l' : List ByteArray} (X Y : Nat) (hX : 3 < X) (hY : 3 < Y) (hXY : X ≠ Y) (hr : r.map (swp X Y) = r) (h : FnR Try.prog G f args (tbX 3 l) r (tbX X l')) : FnR Try.prog G f args (tbX 3 l) r (tbX Y l') := by
  have g0 : ¬ (0 : Nat) = Y := by omega
  have g1 : ¬ (1 : Nat) = Y := by omega
  have g2 : ¬ (2 : Nat) = Y := by omega
  have g3 : ¬ (3 : Nat) = Y := by omega
  have := h.out X Y (by simp [tbX, Nm, lk, g0, g1, g2, g3]) (by simp [tbX, Nm, lk, g0, g1, g2, hXY])
  rw [tbX_sw X Y (by omega) (by omega), hr] at this
  exact this
theorem mv0 {f : Nat} {args : List AV} {r : AV} {l' : List ByteArray} (X Y : Nat) (hX : 3 < X) (hY : 3 < Y) (hXY : X ≠ Y) (hr : r.map (swp X Y) = r) (h : FnR Try.prog G f args (tabE []) r (tbX X l')) : FnR Try.prog G f args (tabE []) r (tbX Y l') := by
  have g0 : ¬ (0 : Nat) = Y := by omega
  have g1 : ¬ (1 : Nat) = Y := by omega
  have g2 : ¬ (2 : Nat) = Y := by omega
  have := h.out X Y (by simp [tabE, Nm, lk, g0, g1, g2]) (by simp [tbX, Nm, lk, g0, g1, g2, hXY])
  rw [tbX_sw X Y (by omega) (by omega), hr] at this
  exact this
theorem atomT_00 (s : ByteArray) (h : ¬ okP [s]) : FnR Try.prog G 18 [.ptr 0 0 0 1, .str s] (tabE []) (.str eS) (tabE []) :=
  atom_00 (put_00 1 [s] (by simp) h)
theorem atomT_01 (s : ByteArray) (h : okP [s]) : FnR Try.prog G 18 [.ptr 0 0 0 1, .str s] (tabE []) (.str (nmS 1)) (tbX 992 [encS 1 [s]]) :=
  mv0 80 992 (by omega) (by omega) (by omega) rfl (atom_01 (k := 0) (a1 := []) (a2 := []) (a3 := []) (mv0 992 80 (by omega) (by omega) (by omega) rfl (put_01 1 (by omega) [s] (by simp) h)))
theorem atomT_11 (s : ByteArray) (l : List ByteArray) (hne : l ≠ []) (hll : l.length < 1000) : FnR Try.prog G 18 [.ptr 0 0 0 1, .str s] (tbX 3 l) (.str (putN l 1 [s])) (tbX 992 (putL l 1 [s])) :=
  mv1 80 992 (by omega) (by omega) (by omega) rfl (atom_11 (mv1 992 80 (by omega) (by omega) (by omega) rfl (put_11 1 (by omega) [s] (by simp) l hne hll)))
theorem pubT_00 (s : ByteArray) (h : ¬ okP [s]) : FnR Try.prog G 19 [.ptr 0 0 0 1, .str s] (tabE []) (.str eS) (tabE []) :=
  pub_00 (put_00 2 [s] (by simp) h)
theorem pubT_01 (s : ByteArray) (h : okP [s]) : FnR Try.prog G 19 [.ptr 0 0 0 1, .str s] (tabE []) (.str (nmS 1)) (tbX 992 [encS 2 [s]]) :=
  mv0 80 992 (by omega) (by omega) (by omega) rfl (pub_01 (k := 0) (a1 := []) (a2 := []) (a3 := []) (mv0 992 80 (by omega) (by omega) (by omega) rfl (put_01 2 (by omega) [s] (by simp) h)))
theorem pubT_11 (s : ByteArray) (l : List ByteArray) (hne : l ≠ []) (hll : l.length < 1000) : FnR Try.prog G 19 [.ptr 0 0 0 1, .str s] (tbX 3 l) (.str (putN l 2 [s])) (tbX 992 (putL l 2 [s])) :=
  mv1 80 992 (by omega) (by omega) (by omega) rfl (pub_11 (mv1 992 80 (by omega) (by omega) (by omega) rfl (put_11 2 (by omega) [s] (by simp) l hne hll)))
theorem hashT_00 (ps : List ByteArray) (hl : ps.length ≤ 7) (h : ¬ okP ps) : FnR Try.prog G 20 [.ptr 0 0 0 1, .lstS ps] (tabE []) (.str eS) (tabE []) :=
  hash_00 (put_00 4 ps hl h)
theorem hashT_01 (ps : List ByteArray) (hl : ps.length ≤ 7) (h : okP ps) : FnR Try.prog G 20 [.ptr 0 0 0 1, .lstS ps] (tabE []) (.str (nmS 1)) (tbX 992 [encS 4 ps]) :=
  mv0 64 992 (by omega) (by omega) (by omega) rfl (hash_01 (k := 0) (a1 := []) (a2 := []) (a3 := []) (mv0 992 64 (by omega) (by omega) (by omega) rfl (put_01 4 (by omega) ps hl h)))
theorem hashT_11 (ps : List ByteArray) (hl : ps.length ≤ 7) (l : List ByteArray) (hne : l ≠ []) (hll : l.length < 1000) : FnR Try.prog G 20 [.ptr 0 0 0 1, .lstS ps] (tbX 3 l) (.str (putN l 4 ps)) (tbX 992 (putL l 4 ps)) :=
  mv1 64 992 (by omega) (by omega) (by omega) rfl (hash_11 (mv1 992 64 (by omega) (by omega) (by omega) rfl (put_11 4 (by omega) ps hl l hne hll)))
theorem sealT_00 (s : ByteArray) (n : Int) (ad t : ByteArray) (hn : 0 ≤ n ∧ n < 18446744073709551616) (h : ¬ okP [s, strOf (numK n 8), ad, t]) : FnR Try.prog G 22 [.ptr 0 0 0 1, .str s, .int .u64 n, .str ad, .str t] (tabE []) (.str eS) (tabE []) :=
  seal_00 hn (put_00 5 [s, strOf (numK n 8), ad, t] (by simp) h)
theorem sealT_01 (s : ByteArray) (n : Int) (ad t : ByteArray) (hn : 0 ≤ n ∧ n < 18446744073709551616) (h : okP [s, strOf (numK n 8), ad, t]) : FnR Try.prog G 22 [.ptr 0 0 0 1, .str s, .int .u64 n, .str ad, .str t] (tabE []) (.str (nmS 1)) (tbX 992 [encS 5 [s, strOf (numK n 8), ad, t]]) :=
  mv0 144 992 (by omega) (by omega) (by omega) rfl (seal_01 (k := 0) (a1 := []) (a2 := []) (a3 := []) hn (mv0 992 144 (by omega) (by omega) (by omega) rfl (put_01 5 (by omega) [s, strOf (numK n 8), ad, t] (by simp) h)))
theorem sealT_11 (s : ByteArray) (n : Int) (ad t : ByteArray) (hn : 0 ≤ n ∧ n < 18446744073709551616) (l : List ByteArray) (hne : l ≠ []) (hll : l.length < 1000) : FnR Try.prog G 22 [.ptr 0 0 0 1, .str s, .int .u64 n, .str ad, .str t] (tbX 3 l) (.str (putN l 5 [s, strOf (numK n 8), ad, t])) (tbX 992 (putL l 5 [s, strOf (numK n 8), ad, t])) :=
  mv1 144 992 (by omega) (by omega) (by omega) rfl (seal_11 hn (mv1 992 144 (by omega) (by omega) (by omega) rfl (put_11 5 (by omega) [s, strOf (numK n 8), ad, t] (by simp) l hne hll)))
end Go.Proofs.Ytjnhpklhdikcdaa
