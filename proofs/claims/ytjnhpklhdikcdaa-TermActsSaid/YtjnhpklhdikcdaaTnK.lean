/- Names and terms, plainly: one name for one term. -/
import Derived.Test.YtjnhpklhdikcdaaTnG
set_option linter.unusedVariables false
set_option linter.unusedSimpArgs false
namespace Go.Proofs.Ytjnhpklhdikcdaa
open Sx
set_option maxRecDepth 100000
set_option maxHeartbeats 1000000
-- the order of texts
theorem bl_total : ∀ x y : List UInt8, Op.bytesLess x y = false → Op.bytesLess y x = false → x = y
  | [], [], _, _ => rfl
  | [], b :: y, h, _ => by simp [Op.bytesLess] at h
  | a :: x, [], _, h => by simp [Op.bytesLess] at h
  | a :: x, b :: y, h1, h2 => by
    simp only [Op.bytesLess, Bool.or_eq_false_iff, decide_eq_false_iff_not, Bool.and_eq_false_imp, beq_iff_eq] at h1 h2
    have e : a = b := by
      apply UInt8.toNat_inj.1
      have p1 := h1.1
      have p2 := h2.1
      rw [UInt8.lt_iff_toNat_lt] at p1 p2
      omega
    subst e
    rw [bl_total x y (h1.2 rfl) (h2.2 rfl)]
theorem bl_asymm : ∀ x y : List UInt8, Op.bytesLess x y = true → Op.bytesLess y x = false
  | [], [], h => by simp [Op.bytesLess] at h
  | [], b :: y, _ => by simp [Op.bytesLess]
  | a :: x, [], h => by simp [Op.bytesLess] at h
  | a :: x, b :: y, h => by
    simp only [Op.bytesLess, Bool.or_eq_true, decide_eq_true_eq, Bool.and_eq_true, beq_iff_eq] at h
    simp only [Op.bytesLess, Bool.or_eq_false_iff, decide_eq_false_iff_not, Bool.and_eq_false_imp, beq_iff_eq]
    rcases h with h | ⟨h, h'⟩
    · rw [UInt8.lt_iff_toNat_lt] at h ⊢
      exact ⟨by omega, fun q => by rw [q] at h; omega⟩
    · subst h
      refine ⟨by rw [UInt8.lt_iff_toNat_lt]; omega, fun _ => bl_asymm x y h'⟩
theorem srt_comm (a b : ByteArray) : srt a b = srt b a := by
  rw [srt, srt]
  by_cases h1 : Op.bytesLess b.toList a.toList = true
  · rw [if_pos h1, if_neg (by rw [bl_asymm _ _ h1]; simp)]
  · by_cases h2 : Op.bytesLess a.toList b.toList = true
    · rw [if_neg h1, if_pos h2]
    · have : a = b := toL_eq.1 (bl_total _ _ (by simpa using h2) (by simpa using h1))
      rw [this]
theorem srt_cases (a b : ByteArray) : srt a b = [a, b] ∨ srt a b = [b, a] := by
  rw [srt]; split
  · exact .inr rfl
  · exact .inl rfl
theorem srt_self (a b : ByteArray) : srt a a = srt a b ↔ a = b := by
  constructor
  · intro h
    have e : srt a a = [a, a] := by rw [srt]; split <;> rfl
    rw [e] at h
    rcases srt_cases a b with q | q <;> rw [q] at h <;> simp at h <;> first | exact h | exact h.symm
  · rintro rfl; rfl
theorem srt_ok {a b : ByteArray} (ha : a.size ≤ 4000) (hb : b.size ≤ 4000) : okP (srt a b) := by
  intro x hx
  rcases srt_cases a b with q | q <;> rw [q] at hx <;> simp only [List.mem_cons, List.not_mem_nil, or_false] at hx <;> rcases hx with rfl | rfl <;> assumption
-- the form of a term tells the term
theorem ap_split {a b c d : ByteArray} (hl : a.size = c.size) (h : a ++ b = c ++ d) : a = c ∧ b = d := by
  have h1 := congrArg (fun x : ByteArray => x.data.toList) h
  simp only [ByteArray.data_append, Array.toList_append] at h1
  have hl' : a.data.toList.length = c.data.toList.length := by simpa using hl
  obtain ⟨h2, h3⟩ := List.append_inj h1 hl'
  exact ⟨ByteArray.ext (Array.ext' h2), ByteArray.ext (Array.ext' h3)⟩
theorem bS_inj {x y : Nat} (h : bS x = bS y) : x % 256 = y % 256 := by
  have h1 : (bS x).data[0]? = (bS y).data[0]? := by rw [h]
  simp only [bS] at h1
  have h2 : UInt8.ofNat x = UInt8.ofNat y := by simpa using h1
  have h3 := congrArg UInt8.toNat h2
  simpa using h3
theorem bS_size (x : Nat) : (bS x).size = 1 := rfl
theorem bs_split {x y : Nat} {b d : ByteArray} (h : bS x ++ b = bS y ++ d) : bS x = bS y ∧ b = d := ap_split (a := bS x) (c := bS y) ((bS_size x).trans (bS_size y).symm) h
theorem rS_inj : ∀ l l' : List ByteArray, (∀ s ∈ l, s.size ≤ 4000) → (∀ s ∈ l', s.size ≤ 4000) → l.length = l'.length → rS l = rS l' → l = l'
  | [], [], _, _, _, _ => rfl
  | [], _ :: _, _, _, h, _ => by simp at h
  | _ :: _, [], _, _, h, _ => by simp at h
  | s :: l, s' :: l', h1, h2, h3, h => by
    rw [rS, rS] at h
    obtain ⟨q1, h⟩ := bs_split h
    obtain ⟨q2, h⟩ := bs_split h
    have p1 := bS_inj q1
    have p2 := bS_inj q2
    have z1 := h1 s (List.mem_cons_self ..)
    have z2 := h2 s' (List.mem_cons_self ..)
    have hs : s.size = s'.size := by omega
    obtain ⟨q3, h4⟩ := ap_split hs h
    subst q3
    rw [rS_inj l l' (fun x hx => h1 x (List.mem_cons_of_mem _ hx)) (fun x hx => h2 x (List.mem_cons_of_mem _ hx)) (by simpa using h3) h4]
theorem encS_inj {k k' : Nat} {ps ps' : List ByteArray} (h : okT k ps) (h' : okT k' ps') (e : encS k ps = encS k' ps') : k = k' ∧ ps = ps' := by
  obtain ⟨a1, _, a3, a4⟩ := h
  obtain ⟨b1, _, b3, b4⟩ := h'
  rw [encS, encS] at e
  obtain ⟨_, e⟩ := bs_split e
  obtain ⟨q1, e⟩ := bs_split e
  obtain ⟨q2, e⟩ := bs_split e
  have p1 := bS_inj q1
  have p2 := bS_inj q2
  exact ⟨by omega, rS_inj ps ps' a4 b4 (by omega) e⟩
/-- The i-th term is this one. -/
def isAt (T : Tms') (i : Nat) (t : Nat × List ByteArray) : Prop := T[i]? = some t
theorem isAt_pre {T T' : Tms'} (h : T <+: T') {i : Nat} {t : Nat × List ByteArray} (hi : isAt T i t) : isAt T' i t := by
  obtain ⟨R, rfl⟩ := h
  have := (List.getElem?_eq_some_iff.1 hi).1
  rw [isAt, List.getElem?_append_left this]; exact hi
theorem ixOf_some {T : Tms'} (hT : okTs T) {k : Nat} {ps : List ByteArray} (h : okT k ps) {i : Nat} (hi : ixOf (encL T) (encS k ps) = some i) : isAt T i (k, ps) := by
  rw [ixOf, List.findIdx?_eq_some_iff_getElem] at hi
  obtain ⟨h1, h2, _⟩ := hi
  have h1' : i < T.length := by rw [encL_len] at h1; exact h1
  have e : (encL T)[i] = encS T[i].1 T[i].2 := by simp [encL]
  have h3 := beq_bytes.1 h2
  rw [e] at h3
  obtain ⟨p1, p2⟩ := encS_inj (hT _ (List.getElem_mem h1')) h h3
  rw [isAt, List.getElem?_eq_getElem h1']
  congr 1
  exact Prod.ext p1 p2
/-- What a put comes to: the name of the term's place. -/
theorem put_at {T : Tms'} (hT : okTs T) {k : Nat} {ps : List ByteArray} (h : okT k ps) : ∃ i, putN (encL T) k ps = nmS ((i + 1 : Nat) : Int) ∧ isAt (tPut T k ps) i (k, ps) := by
  have hp := h.2.2.2
  cases hi : ixOf (encL T) (encS k ps) with
  | some i => exact ⟨i, (put_some hp hi).1, by rw [tPut, if_pos hp, hi]; exact ixOf_some hT h hi⟩
  | none =>
    refine ⟨T.length, by rw [(put_none hp hi).1, encL_len], ?_⟩
    rw [tPut, if_pos hp, hi, isAt]
    simp
theorem isAt_ix {T : Tms'} {k : Nat} {ps : List ByteArray} {i : Nat} (h : isAt T i (k, ps)) : ∃ j, ixOf (encL T) (encS k ps) = some j := by
  cases hj : ixOf (encL T) (encS k ps) with
  | some j => exact ⟨j, rfl⟩
  | none =>
    have hm : encS k ps ∈ encL T := by
      rw [encL, List.mem_map]; exact ⟨(k, ps), List.mem_of_getElem? h, rfl⟩
    exact absurd rfl (ixOf_none hj _ hm)
/-- No term comes twice. -/
def uniq (T : Tms') : Prop := ∀ i j t, isAt T i t → isAt T j t → i = j
theorem uniq_nil : uniq [] := fun i j t h => by simp [isAt] at h
theorem put_uniq {T : Tms'} (hu : uniq T) (k : Nat) (ps : List ByteArray) : uniq (tPut T k ps) := by
  rw [tPut]
  split
  · cases hi : ixOf (encL T) (encS k ps) with
    | some i => exact hu
    | none =>
      have no : ∀ j, ¬ isAt T j (k, ps) := fun j hj => by
        obtain ⟨i, h⟩ := isAt_ix hj
        rw [hi] at h; cases h
      intro i j t h1 h2
      simp only at h1 h2
      have sp : ∀ i, isAt (T ++ [(k, ps)]) i t → isAt T i t ∨ (i = T.length ∧ t = (k, ps)) := by
        intro i h
        by_cases hlt : i < T.length
        · rw [isAt, List.getElem?_append_left hlt] at h; exact .inl h
        · rw [isAt, List.getElem?_append_right (by omega)] at h
          have := (List.getElem?_eq_some_iff.1 h).1
          simp at this
          have e : i - T.length = 0 := by omega
          rw [e] at h
          exact .inr ⟨by omega, (by simpa using h : (k, ps) = t).symm⟩
      rcases sp i h1 with a | ⟨a, a'⟩ <;> rcases sp j h2 with b | ⟨b, b'⟩
      · exact hu i j t a b
      · rw [b'] at a; exact absurd a (no i)
      · rw [a'] at b; exact absurd b (no j)
      · omega
  · exact hu
theorem md_uniq {T : Tms'} (hu : uniq T) (x : Ac) : uniq (mdT T x) := by
  rw [mdT]
  cases mdQ T x with
  | none => exact hu
  | some p =>
    obtain ⟨k, ps⟩ := p
    exact put_uniq hu k ps
theorem run_uniq : ∀ (l : List Ac) (T : Tms'), uniq T → uniq (l.foldl mdT T)
  | [], T, h => h
  | x :: l, T, h => run_uniq l _ (md_uniq h x)
/-- A name that there is, is found. -/
theorem fnd_at {T : Tms'} (hl : T.length < 1000) {i : Nat} (hi : i < T.length) : fndI T (nmS ((i + 1 : Nat) : Int)) = some i := by
  rw [fndI, List.find?_range_eq_some]
  refine ⟨beq_bytes.2 rfl, by simpa using hi, fun j hj => ?_⟩
  have h2 : ¬ ((nmS ((i + 1 : Nat) : Int) == nmS ((j + 1 : Nat) : Int)) = true) := fun q => by
    have := nmS_inj (by omega) (by omega) (beq_bytes.1 q)
    omega
  simpa using h2
/-- What is put again is as it was. -/
theorem put_again {T : Tms'} (hu : uniq T) (hT : okTs T) {k : Nat} {ps : List ByteArray} (h : okT k ps) {i : Nat} (hi : isAt T i (k, ps)) : putN (encL T) k ps = nmS ((i + 1 : Nat) : Int) ∧ tPut T k ps = T := by
  obtain ⟨j, hj⟩ := isAt_ix hi
  have e := hu i j (k, ps) hi (ixOf_some hT h hj)
  subst e
  exact ⟨(put_some h.2.2.2 hj).1, by rw [tPut, if_pos h.2.2.2, hj]⟩
theorem isAt_lt {T : Tms'} {i : Nat} {t : Nat × List ByteArray} (h : isAt T i t) : i < T.length := (List.getElem?_eq_some_iff.1 h).1
theorem isAt_eq {T : Tms'} {i : Nat} {t t' : Nat × List ByteArray} (h : isAt T i t) (h' : isAt T i t') : t = t' := by
  rw [isAt] at h h'; rw [h] at h'; cases h'; rfl
end Go.Proofs.Ytjnhpklhdikcdaa
