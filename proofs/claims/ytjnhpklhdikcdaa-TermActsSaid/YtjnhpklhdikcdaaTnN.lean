/- What kinds of terms have what parts. -/
import Derived.Test.YtjnhpklhdikcdaaTnK
set_option linter.unusedVariables false
set_option linter.unusedSimpArgs false
namespace Go.Proofs.Ytjnhpklhdikcdaa
open Sx
set_option maxRecDepth 100000
set_option maxHeartbeats 1000000
/-- Atoms and public keys have one part. -/
def wfT (T : Tms') : Prop := ∀ t ∈ T, t.1 = 1 ∨ t.1 = 2 → ∃ s, t.2 = [s]
theorem wfT_nil : wfT [] := fun t h => by cases h
theorem put_wf {T : Tms'} (h : wfT T) {k : Nat} {ps : List ByteArray} (hk : k = 1 ∨ k = 2 → ∃ s, ps = [s]) : wfT (tPut T k ps) := by
  rw [tPut]
  split
  · cases ixOf (encL T) (encS k ps) with
    | some i => exact h
    | none =>
      intro t ht
      rcases List.mem_append.1 ht with ht | ht
      · exact h t ht
      · rw [List.mem_singleton.1 ht]; exact hk
  · exact h
theorem mdQ_wf {T : Tms'} {x : Ac} {k : Nat} {ps : List ByteArray} (h : mdQ T x = some (k, ps)) : k = 1 ∨ k = 2 → ∃ s, ps = [s] := by
  rw [mdQ] at h
  split at h
  · cases h; exact fun _ => ⟨_, rfl⟩
  · split at h
    · cases h; exact fun _ => ⟨_, rfl⟩
    · split at h
      · simp only [Option.map_eq_some_iff] at h
        obtain ⟨y, _, h⟩ := h
        cases h
        intro q; omega
      · split at h
        · cases h; intro q; omega
        · cases h; intro q; omega
theorem md_wf {T : Tms'} (h : wfT T) (x : Ac) : wfT (mdT T x) := by
  rw [mdT]
  cases hq : mdQ T x with
  | none => exact h
  | some p =>
    obtain ⟨k, ps⟩ := p
    exact put_wf h (mdQ_wf hq)
theorem run_wf : ∀ (l : List Ac) (T : Tms'), wfT T → wfT (l.foldl mdT T)
  | [], T, h => h
  | x :: l, T, h => run_wf l _ (md_wf h x)
theorem alL_getD (l : List ByteArray) (k : Nat) (h : k < l.length) : (alL l).getD k ByteArray.empty = nmS ((k + 1 : Nat) : Int) := by
  simp [alL, List.getD_eq_getElem?_getD, h]
theorem prT_at {T : Tms'} (hl : T.length < 1000) {i : Nat} {k : Nat} {ps : List ByteArray} (h : isAt T i (k, ps)) : prT T (nmS ((i + 1 : Nat) : Int)) = .tup [.int .u8 (k : Nat), .lstS ps, .bool true] := by
  have h' : T[i]? = some (k, ps) := h
  rw [prT, fnd_at hl (isAt_lt h)]
  show (match T[i]? with | some t => _ | none => _) = _
  rw [h']
theorem again {T : Tms'} (hu : uniq T) (hT : okTs T) {k : Nat} {ps : List ByteArray} {i : Nat} (hi : isAt T i (k, ps)) : putN (encL T) k ps = nmS ((i + 1 : Nat) : Int) ∧ putL (encL T) k ps = encL T := by
  have ho := hT _ (List.mem_of_getElem? hi)
  have h := put_again hu hT ho hi
  exact ⟨h.1, by rw [putT_enc, h.2]⟩
end Go.Proofs.Ytjnhpklhdikcdaa
