/- Tables: Hash, by lists of terms. -/
import Derived.Test.YtbefcdgjainflaaHmR
set_option linter.unusedVariables false
set_option linter.unusedSectionVars false
set_option linter.unusedSimpArgs false
namespace Go.Proofs.Ytbefcdgjainflaa
open Sx
variable [Inhabited Tabs]
set_option maxRecDepth 100000
set_option maxHeartbeats 1000000
theorem mv1 {f : Nat} {args : List AV} {r : AV} {l l' : List ByteArray} (X Y : Nat) (hX : 3 < X) (hY : 3 < Y) (hXY : X ≠ Y) (hr : r.map (swp X Y) = r) (h : FnR Try.prog G f args (tbX 3 l) r (tbX X l')) : FnR Try.prog G f args (tbX 3 l) r (tbX Y l') := by
  have g0 : ¬ (0 : Nat) = Y := by omega
  have g1 : ¬ (1 : Nat) = Y := by omega
  have g2 : ¬ (2 : Nat) = Y := by omega
  have g3 : ¬ (3 : Nat) = Y := by omega
  have := h.out X Y (by simp [tbX, Nm, lk, g0, g1, g2, g3]) (by simp [tbX, Nm, lk, g0, g1, g2, hXY])
  rw [tbX_sw X Y (by omega) (by omega), hr] at this
  exact this
theorem mv0 {f : Nat} {args : List AV} {r : AV} {l' : List ByteArray} (X Y : Nat) (hX : 3 < X) (hY : 3 < Y) (hXY : X ≠ Y) (hr : r.map (swp X Y) = r) (h : FnR Try.prog G f args (tabE []) r (tbX X l')) : FnR Try.prog G f args (tabE []) r (tbX Y l') := by
  have g0 : ¬ (0 : Nat) = Y := by omega
  have g1 : ¬ (1 : Nat) = Y := by omega
  have g2 : ¬ (2 : Nat) = Y := by omega
  have := h.out X Y (by simp [tabE, Nm, lk, g0, g1, g2]) (by simp [tbX, Nm, lk, g0, g1, g2, hXY])
  rw [tbX_sw X Y (by omega) (by omega), hr] at this
  exact this
theorem hashT_00 (ps : List ByteArray) (hl : ps.length ≤ 7) (h : ¬ okP ps) : FnR Try.prog G 61 [.ptr 0 0 0 1, .lstS ps] (tabE []) (.str eS) (tabE []) :=
  hash_00 (put_00 4 ps hl h)
theorem hashT_01 (ps : List ByteArray) (hl : ps.length ≤ 7) (h : okP ps) : FnR Try.prog G 61 [.ptr 0 0 0 1, .lstS ps] (tabE []) (.str (nmS 1)) (tbX 992 [encS 4 ps]) :=
  mv0 64 992 (by omega) (by omega) (by omega) rfl (hash_01 (k := 0) (a1 := []) (a2 := []) (a3 := []) (mv0 992 64 (by omega) (by omega) (by omega) rfl (put_01 4 (by omega) ps hl h)))
theorem hashT_11 (ps : List ByteArray) (hl : ps.length ≤ 7) (l : List ByteArray) (hne : l ≠ []) (hll : l.length < 1000) : FnR Try.prog G 61 [.ptr 0 0 0 1, .lstS ps] (tbX 3 l) (.str (putN l 4 ps)) (tbX 992 (putL l 4 ps)) :=
  mv1 64 992 (by omega) (by omega) (by omega) rfl (hash_11 (mv1 992 64 (by omega) (by omega) (by omega) rfl (put_11 4 (by omega) ps hl l hne hll)))
theorem tbX_swG (X Y Z : Nat) (hX : 2 < X) (hY : 2 < Y) (l : List ByteArray) : enMap (swp X Y) (tbX Z l) = tbX (swp X Y Z) l := by
  have h0 : ¬ (0 : Nat) = X := by omega
  have h1 : ¬ (1 : Nat) = X := by omega
  have h2 : ¬ (2 : Nat) = X := by omega
  have g0 : ¬ (0 : Nat) = Y := by omega
  have g1 : ¬ (1 : Nat) = Y := by omega
  have g2 : ¬ (2 : Nat) = Y := by omega
  simp [tbX, enMap, Ent.map, AV.map, AV.mapL, Row.map]
  simp [swp, h0, h1, h2, g0, g1, g2]
/-- No name but the table's. -/
def stay (x : AV) : Prop := ∀ a b : Nat, 2 < a → 2 < b → x.map (swp a b) = x
theorem stay_ptr : stay (.ptr 0 0 0 1) := by
  intro a b ha hb
  have h0 : ¬ (0 : Nat) = a := by omega
  have g0 : ¬ (0 : Nat) = b := by omega
  simp [AV.map, swp, h0, g0]
theorem stay_str (s : ByteArray) : stay (.str s) := fun _ _ _ _ => rfl
theorem stay_lst (s : List ByteArray) : stay (.lstS s) := fun _ _ _ _ => rfl
theorem stay_int (k : IntKind) (n : Int) : stay (.int k n) := fun _ _ _ _ => rfl
theorem stay_sb (s : ByteArray) (b : Bool) : stay (.tup [.str s, .bool b]) := fun _ _ _ _ => rfl
theorem stays {l : List AV} (h : ∀ x ∈ l, stay x) (a b : Nat) (ha : 2 < a) (hb : 2 < b) : l.map (AV.map (swp a b)) = l := by
  conv => rhs; rw [← List.map_id l]
  apply List.map_congr_left
  intro x hx
  exact h x hx a b ha hb
theorem renT {f : Nat} {args : List AV} {r : AV} {l l' : List ByteArray} (X Y : Nat) (hX : 2 < X) (hY : 2 < Y) (hXY : X ≠ Y) (hX9 : X ≠ 992) (ha : ∀ x ∈ args, stay x) (hr : stay r) (h : FnR Try.prog G f args (tbX 3 l) r (tbX 992 l')) : FnR Try.prog G f args (tbX X l) r (tbX Y l') := by
  have h1 := h.swap 3 X
  rw [stays ha 3 X (by omega) hX, hr 3 X (by omega) hX, tbX_swG 3 X 3 (by omega) hX, tbX_swG 3 X 992 (by omega) hX, show swp 3 X 3 = X from by simp [swp], show swp 3 X 992 = 992 from by simp [swp]; omega] at h1
  by_cases hq : Y = 992
  · subst hq; exact h1
  · have g0 : ¬ (0 : Nat) = Y := by omega
    have g1 : ¬ (1 : Nat) = Y := by omega
    have g2 : ¬ (2 : Nat) = Y := by omega
    have h2 := h1.out 992 Y (by simp [tbX, Nm, lk, g0, g1, g2, hXY]) (by simp [tbX, Nm, lk, g0, g1, g2]; omega)
    rw [hr 992 Y (by omega) hY, tbX_swG 992 Y 992 (by omega) hY, show swp 992 Y 992 = Y from by simp [swp]] at h2
    exact h2
/-- The same, the table left as it was. -/
theorem renS {f : Nat} {args : List AV} {r : AV} {l l' : List ByteArray} (X : Nat) (hX : 2 < X) (ha : ∀ x ∈ args, stay x) (hr : stay r) (h : FnR Try.prog G f args (tbX 3 l) r (tbX 3 l')) : FnR Try.prog G f args (tbX X l) r (tbX X l') := by
  have h1 := h.swap 3 X
  rw [stays ha 3 X (by omega) hX, hr 3 X (by omega) hX, tbX_swG 3 X 3 (by omega) hX, tbX_swG 3 X 3 (by omega) hX, show swp 3 X 3 = X from by simp [swp]] at h1
  exact h1
theorem ok1 (s : ByteArray) (h : s.size ≤ 4000) : okP [s] := by intro x hx; rw [List.mem_singleton.1 hx]; exact h
theorem okn (n : Int) : okP [nmS n] := ok1 _ (by rw [nmS_size]; omega)
theorem okn2 (n m : Int) : okP [nmS n, nmS m] := by
  intro x hx
  rcases List.mem_cons.1 hx with rfl | hx
  · rw [nmS_size]; omega
  · rw [List.mem_singleton.1 hx, nmS_size]; omega
theorem put_none {l : List ByteArray} {kind : Nat} {ps : List ByteArray} (h : okP ps) (hi : ixOf l (encS kind ps) = none) : putN l kind ps = nmS ((l.length + 1 : Nat) : Int) ∧ putL l kind ps = l ++ [encS kind ps] := by
  rw [putN, putL, if_pos h, if_pos h, hi]; exact ⟨rfl, rfl⟩
theorem put_some {l : List ByteArray} {kind : Nat} {ps : List ByteArray} {i : Nat} (h : okP ps) (hi : ixOf l (encS kind ps) = some i) : putN l kind ps = nmS ((i + 1 : Nat) : Int) ∧ putL l kind ps = l := by
  rw [putN, putL, if_pos h, if_pos h, hi]; exact ⟨rfl, rfl⟩
/-- A term's parts are of some size. -/
def okT (kind : Nat) (ps : List ByteArray) : Prop := kind < 256 ∧ ps ≠ [] ∧ ps.length ≤ 7 ∧ okP ps
theorem toL_eq {s t : ByteArray} : s.toList = t.toList ↔ s = t := by
  rw [ByteArray.toList_eq, ByteArray.toList_eq]
  exact ⟨fun h => ByteArray.ext (Array.ext' h), fun h => by rw [h]⟩
theorem toL_beq (s t : ByteArray) : (s.toList == t.toList) = decide (s = t) := by
  rw [Bool.eq_iff_iff]
  simp [toL_eq]
theorem nm_ne (n : Int) : nmS n ≠ eS := by
  intro h
  have := nmS_size n
  rw [h] at this
  cases this
/-- Terms: a kind and parts each. -/
abbrev Tms' := List (Nat × List ByteArray)
def encL (T : Tms') : List ByteArray := T.map fun t => encS t.1 t.2
theorem encL_len (T : Tms') : (encL T).length = T.length := List.length_map ..
theorem encL_nil : encL [] = [] := rfl
theorem encL_ne {T : Tms'} (h : T ≠ []) : encL T ≠ [] := by
  intro q
  exact h (List.map_eq_nil_iff.1 q)
def okTs (T : Tms') : Prop := ∀ t ∈ T, okT t.1 t.2
/-- A table of some terms, its row of names X. -/
def tabS (X : Nat) (T : Tms') : Ents := if T = [] then tabE [] else tbX X (encL T)
theorem tabS_nil (X : Nat) : tabS X [] = tabE [] := by rw [tabS, if_pos rfl]
theorem tabS_ne (X : Nat) {T : Tms'} (h : T ≠ []) : tabS X T = tbX X (encL T) := by rw [tabS, if_neg h]
def tPut (T : Tms') (kind : Nat) (ps : List ByteArray) : Tms' :=
  if okP ps then match ixOf (encL T) (encS kind ps) with
    | some _ => T
    | none => T ++ [(kind, ps)]
  else T
theorem putT_enc (T : Tms') (kind : Nat) (ps : List ByteArray) : putL (encL T) kind ps = encL (tPut T kind ps) := by
  rw [putL, tPut]
  split
  · cases ixOf (encL T) (encS kind ps) with
    | some i => rfl
    | none => simp [encL]
  · rfl
theorem putT_ne {T : Tms'} (h : T ≠ []) (kind : Nat) (ps : List ByteArray) : tPut T kind ps ≠ [] := by
  rw [tPut]
  split
  · cases ixOf (encL T) (encS kind ps) with
    | some i => exact h
    | none => simp
  · exact h
theorem putT_nil {kind : Nat} {ps : List ByteArray} (h : okP ps) : tPut [] kind ps = [(kind, ps)] := by
  rw [tPut, if_pos h]; rfl
theorem putT_no {T : Tms'} {kind : Nat} {ps : List ByteArray} (h : ¬ okP ps) : tPut T kind ps = T := by
  rw [tPut, if_neg h]
theorem putN_no {T : Tms'} {kind : Nat} {ps : List ByteArray} (h : ¬ okP ps) : putN (encL T) kind ps = eS := by
  rw [putN, if_neg h]
theorem putN_nil {kind : Nat} {ps : List ByteArray} (h : okP ps) : putN (encL []) kind ps = nmS 1 := by
  rw [putN, if_pos h]; rfl
theorem putT_ok {T : Tms'} (hT : okTs T) {kind : Nat} {ps : List ByteArray} (hk : kind < 256) (hne : ps ≠ []) (hl : ps.length ≤ 7) : okTs (tPut T kind ps) := by
  rw [tPut]
  split
  · next h =>
    cases ixOf (encL T) (encS kind ps) with
    | some i => exact hT
    | none =>
      intro t ht
      rcases List.mem_append.1 ht with ht | ht
      · exact hT t ht
      · rw [List.mem_singleton.1 ht]; exact ⟨hk, hne, hl, h⟩
  · exact hT
theorem putT_len (T : Tms') (kind : Nat) (ps : List ByteArray) : (tPut T kind ps).length ≤ T.length + 1 := by
  rw [tPut]
  split
  · cases ixOf (encL T) (encS kind ps) <;> simp
  · simp
theorem putT_pre (T : Tms') (kind : Nat) (ps : List ByteArray) : T <+: tPut T kind ps := by
  rw [tPut]
  split
  · cases ixOf (encL T) (encS kind ps) with
    | some i => exact List.prefix_refl _
    | none => exact List.prefix_append ..
  · exact List.prefix_refl _
/-- A row of names that was left, told under another name. -/
theorem mv3 {f : Nat} {args : List AV} {r : AV} {l l' : List ByteArray} (Y : Nat) (hY : 3 < Y) (hr : r.map (swp 3 Y) = r) (h : FnR Try.prog G f args (tbX 3 l) r (tbX 3 l')) : FnR Try.prog G f args (tbX 3 l) r (tbX Y l') := by
  have g0 : ¬ (0 : Nat) = Y := by omega
  have g1 : ¬ (1 : Nat) = Y := by omega
  have g2 : ¬ (2 : Nat) = Y := by omega
  have g3 : ¬ (3 : Nat) = Y := by omega
  have := h.out 3 Y (by simp [tbX, Nm, lk, g0, g1, g2, g3]) (by simp [tbX, Nm, lk, g0, g1, g2, g3])
  rw [tbX_swap Y hY, hr] at this
  exact this
theorem pre_ne {T T' : Tms'} (h : T <+: T') (hn : T ≠ []) : T' ≠ [] := by
  rintro rfl
  exact hn (List.prefix_nil.1 h)
theorem okTs_nil : okTs [] := fun _ h => by cases h
theorem putL_no {l : List ByteArray} {kind : Nat} {ps : List ByteArray} (h : ¬ okP ps) : putL l kind ps = l := by rw [putL, if_neg h]
theorem putN_no' {l : List ByteArray} {kind : Nat} {ps : List ByteArray} (h : ¬ okP ps) : putN l kind ps = eS := by rw [putN, if_neg h]
theorem okP_not {ps : List ByteArray} {s : ByteArray} (h : s ∈ ps) (hs : 4000 < s.size) : ¬ okP ps := fun q => by have := q s h; omega
/-- Contracts of the table's methods, their row of names told under two names. -/
theorem stay_lst1 {x : AV} (h : stay x) : ∀ y ∈ [AV.ptr 0 0 0 1, x], stay y := by
  intro y hy
  simp only [List.mem_cons, List.not_mem_nil, or_false] at hy
  rcases hy with rfl | rfl
  · exact stay_ptr
  · exact h
theorem hashXY (ps : List ByteArray) (hl : ps.length ≤ 7) (l : List ByteArray) (hne : l ≠ []) (hll : l.length < 1000) (X Y : Nat) (hX : 2 < X) (hY : 2 < Y) (hXY : X ≠ Y) (hX9 : X ≠ 992) : FnR Try.prog G 61 [.ptr 0 0 0 1, .lstS ps] (tbX X l) (.str (putN l 4 ps)) (tbX Y (putL l 4 ps)) :=
  renT X Y hX hY hXY hX9 (stay_lst1 (stay_lst _)) (stay_str _) (hashT_11 ps hl l hne hll)
theorem ap_split {a b c d : ByteArray} (hl : a.size = c.size) (h : a ++ b = c ++ d) : a = c ∧ b = d := by
  have h1 := congrArg (fun x : ByteArray => x.data.toList) h
  simp only [ByteArray.data_append, Array.toList_append] at h1
  have hl' : a.data.toList.length = c.data.toList.length := by simpa using hl
  obtain ⟨h2, h3⟩ := List.append_inj h1 hl'
  exact ⟨ByteArray.ext (Array.ext' h2), ByteArray.ext (Array.ext' h3)⟩
theorem bS_inj {x y : Nat} (h : bS x = bS y) : x % 256 = y % 256 := by
  have h1 : (bS x).data[0]? = (bS y).data[0]? := by rw [h]
  simp only [bS] at h1
  have h2 : UInt8.ofNat x = UInt8.ofNat y := by simpa using h1
  have h3 := congrArg UInt8.toNat h2
  simpa using h3
theorem bS_size (x : Nat) : (bS x).size = 1 := rfl
theorem bs_split {x y : Nat} {b d : ByteArray} (h : bS x ++ b = bS y ++ d) : bS x = bS y ∧ b = d := ap_split (a := bS x) (c := bS y) ((bS_size x).trans (bS_size y).symm) h
theorem rS_inj : ∀ l l' : List ByteArray, (∀ s ∈ l, s.size ≤ 4000) → (∀ s ∈ l', s.size ≤ 4000) → l.length = l'.length → rTS l = rTS l' → l = l'
  | [], [], _, _, _, _ => rfl
  | [], _ :: _, _, _, h, _ => by simp at h
  | _ :: _, [], _, _, h, _ => by simp at h
  | s :: l, s' :: l', h1, h2, h3, h => by
    rw [rTS, rTS] at h
    obtain ⟨q1, h⟩ := bs_split h
    obtain ⟨q2, h⟩ := bs_split h
    have p1 := bS_inj q1
    have p2 := bS_inj q2
    have z1 := h1 s (List.mem_cons_self ..)
    have z2 := h2 s' (List.mem_cons_self ..)
    have hs : s.size = s'.size := by omega
    obtain ⟨q3, h4⟩ := ap_split hs h
    subst q3
    rw [rS_inj l l' (fun x hx => h1 x (List.mem_cons_of_mem _ hx)) (fun x hx => h2 x (List.mem_cons_of_mem _ hx)) (by simpa using h3) h4]
theorem encS_inj {k k' : Nat} {ps ps' : List ByteArray} (h : okT k ps) (h' : okT k' ps') (e : encS k ps = encS k' ps') : k = k' ∧ ps = ps' := by
  obtain ⟨a1, _, a3, a4⟩ := h
  obtain ⟨b1, _, b3, b4⟩ := h'
  rw [encS, encS] at e
  obtain ⟨_, e⟩ := bs_split e
  obtain ⟨q1, e⟩ := bs_split e
  obtain ⟨q2, e⟩ := bs_split e
  have p1 := bS_inj q1
  have p2 := bS_inj q2
  exact ⟨by omega, rS_inj ps ps' a4 b4 (by omega) e⟩
/-- The i-th term is this one. -/
def isAt (T : Tms') (i : Nat) (t : Nat × List ByteArray) : Prop := T[i]? = some t
theorem isAt_pre {T T' : Tms'} (h : T <+: T') {i : Nat} {t : Nat × List ByteArray} (hi : isAt T i t) : isAt T' i t := by
  obtain ⟨R, rfl⟩ := h
  have := (List.getElem?_eq_some_iff.1 hi).1
  rw [isAt, List.getElem?_append_left this]; exact hi
theorem ixOf_some {T : Tms'} (hT : okTs T) {k : Nat} {ps : List ByteArray} (h : okT k ps) {i : Nat} (hi : ixOf (encL T) (encS k ps) = some i) : isAt T i (k, ps) := by
  rw [ixOf, List.findIdx?_eq_some_iff_getElem] at hi
  obtain ⟨h1, h2, _⟩ := hi
  have h1' : i < T.length := by rw [encL_len] at h1; exact h1
  have e : (encL T)[i] = encS T[i].1 T[i].2 := by simp [encL]
  have h3 := beq_bytes.1 h2
  rw [e] at h3
  obtain ⟨p1, p2⟩ := encS_inj (hT _ (List.getElem_mem h1')) h h3
  rw [isAt, List.getElem?_eq_getElem h1']
  congr 1
  exact Prod.ext p1 p2
/-- What a put comes to: the name of the term's place. -/
theorem put_at {T : Tms'} (hT : okTs T) {k : Nat} {ps : List ByteArray} (h : okT k ps) : ∃ i, putN (encL T) k ps = nmS ((i + 1 : Nat) : Int) ∧ isAt (tPut T k ps) i (k, ps) := by
  have hp := h.2.2.2
  cases hi : ixOf (encL T) (encS k ps) with
  | some i => exact ⟨i, (put_some hp hi).1, by rw [tPut, if_pos hp, hi]; exact ixOf_some hT h hi⟩
  | none =>
    refine ⟨T.length, by rw [(put_none hp hi).1, encL_len], ?_⟩
    rw [tPut, if_pos hp, hi, isAt]
    simp
theorem isAt_ix {T : Tms'} {k : Nat} {ps : List ByteArray} {i : Nat} (h : isAt T i (k, ps)) : ∃ j, ixOf (encL T) (encS k ps) = some j := by
  cases hj : ixOf (encL T) (encS k ps) with
  | some j => exact ⟨j, rfl⟩
  | none =>
    have hm : encS k ps ∈ encL T := by
      rw [encL, List.mem_map]; exact ⟨(k, ps), List.mem_of_getElem? h, rfl⟩
    exact absurd rfl (ixOf_none hj _ hm)
/-- No term comes twice. -/
def uniq (T : Tms') : Prop := ∀ i j t, isAt T i t → isAt T j t → i = j
theorem uniq_nil : uniq [] := fun i j t h => by simp [isAt] at h
theorem put_uniq {T : Tms'} (hu : uniq T) (k : Nat) (ps : List ByteArray) : uniq (tPut T k ps) := by
  rw [tPut]
  split
  · cases hi : ixOf (encL T) (encS k ps) with
    | some i => exact hu
    | none =>
      have no : ∀ j, ¬ isAt T j (k, ps) := fun j hj => by
        obtain ⟨i, h⟩ := isAt_ix hj
        rw [hi] at h; cases h
      intro i j t h1 h2
      simp only at h1 h2
      have sp : ∀ i, isAt (T ++ [(k, ps)]) i t → isAt T i t ∨ (i = T.length ∧ t = (k, ps)) := by
        intro i h
        by_cases hlt : i < T.length
        · rw [isAt, List.getElem?_append_left hlt] at h; exact .inl h
        · rw [isAt, List.getElem?_append_right (by omega)] at h
          have := (List.getElem?_eq_some_iff.1 h).1
          simp at this
          have e : i - T.length = 0 := by omega
          rw [e] at h
          exact .inr ⟨by omega, (by simpa using h : (k, ps) = t).symm⟩
      rcases sp i h1 with a | ⟨a, a'⟩ <;> rcases sp j h2 with b | ⟨b, b'⟩
      · exact hu i j t a b
      · rw [b'] at a; exact absurd a (no i)
      · rw [a'] at b; exact absurd b (no j)
      · omega
  · exact hu
/-- What is put again is as it was. -/
theorem put_again {T : Tms'} (hu : uniq T) (hT : okTs T) {k : Nat} {ps : List ByteArray} (h : okT k ps) {i : Nat} (hi : isAt T i (k, ps)) : putN (encL T) k ps = nmS ((i + 1 : Nat) : Int) ∧ tPut T k ps = T := by
  obtain ⟨j, hj⟩ := isAt_ix hi
  have e := hu i j (k, ps) hi (ixOf_some hT h hj)
  subst e
  exact ⟨(put_some h.2.2.2 hj).1, by rw [tPut, if_pos h.2.2.2, hj]⟩
theorem isAt_lt {T : Tms'} {i : Nat} {t : Nat × List ByteArray} (h : isAt T i t) : i < T.length := (List.getElem?_eq_some_iff.1 h).1
theorem isAt_eq {T : Tms'} {i : Nat} {t t' : Nat × List ByteArray} (h : isAt T i t) (h' : isAt T i t') : t = t' := by
  rw [isAt] at h h'; rw [h] at h'; cases h'; rfl
theorem nm_beq {i j : Nat} (hi : i < 1000) (hj : j < 1000) : ((nmS ((i + 1 : Nat) : Int)).toList == (nmS ((j + 1 : Nat) : Int)).toList) = decide (i = j) := by
  rw [toL_beq, Bool.eq_iff_iff, decide_eq_true_iff, decide_eq_true_iff]
  constructor
  · intro h
    have := nmS_inj (by omega) (by omega) h
    omega
  · rintro rfl; rfl
theorem two_at {T : Tms'} (hu : uniq T) {i j : Nat} {t t' : Nat × List ByteArray} (h : isAt T i t) (h' : isAt T j t') : i = j ↔ t = t' := by
  constructor
  · rintro rfl; exact isAt_eq h h'
  · rintro rfl; exact hu i j t h h'
end Go.Proofs.Ytbefcdgjainflaa
