/- Tables: Parts and Dh by lists of terms. -/
import Derived.Test.YtjnhpklhdikcdaaTmX
set_option linter.unusedVariables false
set_option linter.unusedSimpArgs false
namespace Go.Proofs.Ytjnhpklhdikcdaa
open Sx
set_option maxRecDepth 100000
set_option maxHeartbeats 1000000
/-- A term's parts are of some size. -/
def okT (kind : Nat) (ps : List ByteArray) : Prop := kind < 256 ∧ ps ≠ [] ∧ ps.length ≤ 7 ∧ okP ps
theorem partsT_have (l : List ByteArray) (hne : l ≠ []) (n : ByteArray) (kind : Nat) (p0 : ByteArray) (ps : List ByteArray) (hk : okT kind (p0 :: ps)) (hg : kvGet (tmL l) n = some (.str (encS kind (p0 :: ps)))) :
    FnR Try.prog G 15 [.ptr 0 0 0 1, .str n] (tbX 3 l) (.tup [.int .u8 (kind : Nat), .lstS (p0 :: ps), .bool true]) (tbX 3 l) := by
  obtain ⟨h1, _, h3, h4⟩ := hk
  have c := parts_have l n kind h1 p0 ps (by omega) h4 (encS_size kind h1 _ h4 h3) hg
  rw [tabE_tbX hne] at c
  exact c
theorem partsT_none (l : List ByteArray) (hne : l ≠ []) (n : ByteArray) (hg : kvGet (tmL l) n = none) : FnR Try.prog G 15 [.ptr 0 0 0 1, .str n] (tbX 3 l) (.tup [.int .u8 0, .nils, .bool false]) (tbX 3 l) := by
  have c := parts_none l n hg
  rw [tabE_tbX hne] at c
  exact c
theorem dhT_none (l : List ByteArray) (hne : l ≠ []) (s p : ByteArray) (hg : kvGet (tmL l) p = none) : FnR Try.prog G 21 [.ptr 0 0 0 1, .str s, .str p] (tbX 3 l) (.tup [.str eS, .bool false]) (tbX 3 l) := dh_ref (partsT_none l hne p hg)
theorem dhT_oth (l : List ByteArray) (hne : l ≠ []) (s p : ByteArray) (kind : Nat) (p0 : ByteArray) (ps : List ByteArray) (hk : okT kind (p0 :: ps)) (h2 : kind ≠ 2) (hg : kvGet (tmL l) p = some (.str (encS kind (p0 :: ps)))) : FnR Try.prog G 21 [.ptr 0 0 0 1, .str s, .str p] (tbX 3 l) (.tup [.str eS, .bool false]) (tbX 3 l) :=
  dh_oth h2 (partsT_have l hne p kind p0 ps hk hg)
theorem dhT_have (l : List ByteArray) (hne : l ≠ []) (hll : l.length < 1000) (s p : ByteArray) (y : ByteArray) (ps : List ByteArray) (hk : okT 2 (y :: ps)) (hg : kvGet (tmL l) p = some (.str (encS 2 (y :: ps)))) : FnR Try.prog G 21 [.ptr 0 0 0 1, .str s, .str p] (tbX 3 l) (.tup [.str (putN l 3 (srt s y)), .bool (nB (putN l 3 (srt s y)))]) (tbX 992 (putL l 3 (srt s y))) := by
  have hsl : (srt s y).length ≤ 7 := by rw [srt]; split <;> simp
  refine mv1 464 992 (by omega) (by omega) (by omega) rfl (dh_have (partsT_have l hne p 2 y ps hk hg) (mv1 992 464 (by omega) (by omega) (by omega) rfl (put_11 3 (by omega) (srt s y) hsl l hne hll)))
theorem toL_eq {s t : ByteArray} : s.toList = t.toList ↔ s = t := by
  rw [ByteArray.toList_eq, ByteArray.toList_eq]
  exact ⟨fun h => ByteArray.ext (Array.ext' h), fun h => by rw [h]⟩
theorem toL_beq (s t : ByteArray) : (s.toList == t.toList) = decide (s = t) := by
  rw [Bool.eq_iff_iff]
  simp [toL_eq]
theorem nB_eq (s : ByteArray) : nB s = !decide (s = eS) := by rw [nB, toL_beq]; rfl
theorem nm_ne (n : Int) : nmS n ≠ eS := by
  intro h
  have := nmS_size n
  rw [h] at this
  cases this
theorem nB_nm (n : Int) : nB (nmS n) = true := by
  rw [nB_eq, decide_eq_false (nm_ne n)]; rfl
end Go.Proofs.Ytjnhpklhdikcdaa
