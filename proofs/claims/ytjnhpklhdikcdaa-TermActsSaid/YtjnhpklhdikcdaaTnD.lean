/- Acts on a table: what they come to, by lists of terms. -/
import Derived.Test.YtjnhpklhdikcdaaTnC
set_option linter.unusedVariables false
set_option linter.unusedSimpArgs false
namespace Go.Proofs.Ytjnhpklhdikcdaa
open Sx
set_option maxRecDepth 100000
set_option maxHeartbeats 1000000
/-- Terms: a kind and parts each. -/
abbrev Tms' := List (Nat × List ByteArray)
def encL (T : Tms') : List ByteArray := T.map fun t => encS t.1 t.2
theorem encL_len (T : Tms') : (encL T).length = T.length := List.length_map ..
theorem encL_nil : encL [] = [] := rfl
theorem encL_ne {T : Tms'} (h : T ≠ []) : encL T ≠ [] := by
  intro q
  exact h (List.map_eq_nil_iff.1 q)
def okTs (T : Tms') : Prop := ∀ t ∈ T, okT t.1 t.2
/-- A table of some terms, its row of names X. -/
def tabS (X : Nat) (T : Tms') : Ents := if T = [] then tabE [] else tbX X (encL T)
theorem tabS_nil (X : Nat) : tabS X [] = tabE [] := by rw [tabS, if_pos rfl]
theorem tabS_ne (X : Nat) {T : Tms'} (h : T ≠ []) : tabS X T = tbX X (encL T) := by rw [tabS, if_neg h]
def tPut (T : Tms') (kind : Nat) (ps : List ByteArray) : Tms' :=
  if okP ps then match ixOf (encL T) (encS kind ps) with
    | some _ => T
    | none => T ++ [(kind, ps)]
  else T
theorem putT_enc (T : Tms') (kind : Nat) (ps : List ByteArray) : putL (encL T) kind ps = encL (tPut T kind ps) := by
  rw [putL, tPut]
  split
  · cases ixOf (encL T) (encS kind ps) with
    | some i => rfl
    | none => simp [encL]
  · rfl
theorem putT_ne {T : Tms'} (h : T ≠ []) (kind : Nat) (ps : List ByteArray) : tPut T kind ps ≠ [] := by
  rw [tPut]
  split
  · cases ixOf (encL T) (encS kind ps) with
    | some i => exact h
    | none => simp
  · exact h
theorem putT_nil {kind : Nat} {ps : List ByteArray} (h : okP ps) : tPut [] kind ps = [(kind, ps)] := by
  rw [tPut, if_pos h]; rfl
theorem putT_no {T : Tms'} {kind : Nat} {ps : List ByteArray} (h : ¬ okP ps) : tPut T kind ps = T := by
  rw [tPut, if_neg h]
theorem putN_no {T : Tms'} {kind : Nat} {ps : List ByteArray} (h : ¬ okP ps) : putN (encL T) kind ps = eS := by
  rw [putN, if_neg h]
theorem putN_nil {kind : Nat} {ps : List ByteArray} (h : okP ps) : putN (encL []) kind ps = nmS 1 := by
  rw [putN, if_pos h]; rfl
theorem putT_ok {T : Tms'} (hT : okTs T) {kind : Nat} {ps : List ByteArray} (hk : kind < 256) (hne : ps ≠ []) (hl : ps.length ≤ 7) : okTs (tPut T kind ps) := by
  rw [tPut]
  split
  · next h =>
    cases ixOf (encL T) (encS kind ps) with
    | some i => exact hT
    | none =>
      intro t ht
      rcases List.mem_append.1 ht with ht | ht
      · exact hT t ht
      · rw [List.mem_singleton.1 ht]; exact ⟨hk, hne, hl, h⟩
  · exact hT
theorem putT_len (T : Tms') (kind : Nat) (ps : List ByteArray) : (tPut T kind ps).length ≤ T.length + 1 := by
  rw [tPut]
  split
  · cases ixOf (encL T) (encS kind ps) <;> simp
  · simp
theorem putT_pre (T : Tms') (kind : Nat) (ps : List ByteArray) : T <+: tPut T kind ps := by
  rw [tPut]
  split
  · cases ixOf (encL T) (encS kind ps) with
    | some i => exact List.prefix_refl _
    | none => exact List.prefix_append ..
  · exact List.prefix_refl _
/-- The number of a name, from 0 on. -/
def fndI (T : Tms') (p : ByteArray) : Option Nat := (List.range T.length).find? fun i => p == nmS ((i + 1 : Nat) : Int)
theorem fndI_some {T : Tms'} {p : ByteArray} {i : Nat} (h : fndI T p = some i) : ∃ t, T[i]? = some t ∧ p = nmS ((i + 1 : Nat) : Int) := by
  have h1 := List.find?_some h
  have h2 := List.mem_of_find?_eq_some h
  rw [List.mem_range] at h2
  exact ⟨T[i], List.getElem?_eq_getElem h2, beq_bytes.1 h1⟩
theorem fndI_none {T : Tms'} {p : ByteArray} (h : fndI T p = none) : kvGet (tmL (encL T)) p = none := by
  refine tmL_none _ _ (fun i hi hq => ?_)
  rw [encL_len] at hi
  rw [fndI, List.find?_eq_none] at h
  exact h i (List.mem_range.2 hi) (beq_bytes.2 hq)
theorem fndI_get {T : Tms'} (hl : T.length < 1000) {p : ByteArray} {i : Nat} (h : fndI T p = some i) {t : Nat × List ByteArray} (ht : T[i]? = some t) : kvGet (tmL (encL T)) p = some (.str (encS t.1 t.2)) := by
  obtain ⟨t', h1, h2⟩ := fndI_some h
  rw [ht] at h1; cases h1
  have hi := (List.getElem?_eq_some_iff.1 ht).1
  have hi' : i < (encL T).length := by rw [encL_len]; exact hi
  rw [h2, tmL_get (encL T) (by rw [encL_len]; exact hl) i hi']
  congr 2
  simp only [encL, List.getElem_map]
  rw [(List.getElem?_eq_some_iff.1 ht).2]
/-- The secret's term, if the name is a public key's. -/
def pubY (T : Tms') (p : ByteArray) : Option ByteArray :=
  match (fndI T p).bind fun i => T[i]? with
  | some (2, y :: _) => some y
  | _ => none
/-- What an act picks. -/
def pkT (T : Tms') (x : Ac) (a : Int) : ByteArray := if x.raw = true ∨ T = [] then x.s else (alL (encL T)).getD (a.toNat % T.length) ByteArray.empty
/-- What an act puts. -/
def mdQ (T : Tms') (x : Ac) : Option (Nat × List ByteArray) :=
  if x.k.tmod 5 = 0 then some (1, [x.s])
  else if x.k.tmod 5 = 1 then some (2, [pkT T x x.a])
  else if x.k.tmod 5 = 2 then (pubY T (pkT T x x.b)).map fun y => (3, srt (pkT T x x.a) y)
  else if x.k.tmod 5 = 3 then some (4, [x.s, pkT T x x.a, pkT T x x.b])
  else some (5, [pkT T x x.a, strOf (numK x.n 8), x.s, pkT T x x.b])
def mdN (T : Tms') (x : Ac) : ByteArray := match mdQ T x with
  | some (k, ps) => putN (encL T) k ps
  | none => eS
def mdT (T : Tms') (x : Ac) : Tms' := match mdQ T x with
  | some (k, ps) => tPut T k ps
  | none => T
theorem srt_len (s y : ByteArray) : (srt s y).length = 2 := by rw [srt]; split <;> rfl
theorem mdQ_ok {T : Tms'} {x : Ac} {k : Nat} {ps : List ByteArray} (h : mdQ T x = some (k, ps)) : k < 256 ∧ ps ≠ [] ∧ ps.length ≤ 7 := by
  rw [mdQ] at h
  split at h
  · cases h; simp
  · split at h
    · cases h; simp
    · split at h
      · simp only [Option.map_eq_some_iff] at h
        obtain ⟨y, _, h⟩ := h
        cases h
        have := srt_len (pkT T x x.a) y
        refine ⟨by omega, fun q => ?_, by omega⟩
        rw [q] at this; cases this
      · split at h
        · cases h; simp
        · cases h; simp
theorem mdT_ok {T : Tms'} (hT : okTs T) (x : Ac) : okTs (mdT T x) := by
  rw [mdT]
  cases h : mdQ T x with
  | none => exact hT
  | some p =>
    obtain ⟨k, ps⟩ := p
    obtain ⟨h1, h2, h3⟩ := mdQ_ok h
    exact putT_ok hT h1 h2 h3
theorem mdT_len (T : Tms') (x : Ac) : (mdT T x).length ≤ T.length + 1 := by
  rw [mdT]
  cases mdQ T x with
  | none => simp
  | some p => exact putT_len ..
theorem mdT_pre (T : Tms') (x : Ac) : T <+: mdT T x := by
  rw [mdT]
  cases mdQ T x with
  | none => exact List.prefix_refl _
  | some p => exact putT_pre ..
theorem mdT_ne {T : Tms'} (h : T ≠ []) (x : Ac) : mdT T x ≠ [] := by
  intro q
  have := mdT_pre T x
  rw [q] at this
  exact h (List.prefix_nil.1 this)
/-- A row of names that was left, told under another name. -/
theorem mv3 {f : Nat} {args : List AV} {r : AV} {l l' : List ByteArray} (Y : Nat) (hY : 3 < Y) (hr : r.map (swp 3 Y) = r) (h : FnR Try.prog G f args (tbX 3 l) r (tbX 3 l')) : FnR Try.prog G f args (tbX 3 l) r (tbX Y l') := by
  have g0 : ¬ (0 : Nat) = Y := by omega
  have g1 : ¬ (1 : Nat) = Y := by omega
  have g2 : ¬ (2 : Nat) = Y := by omega
  have g3 : ¬ (3 : Nat) = Y := by omega
  have := h.out 3 Y (by simp [tbX, Nm, lk, g0, g1, g2, g3]) (by simp [tbX, Nm, lk, g0, g1, g2, g3])
  rw [tbX_swap Y hY, hr] at this
  exact this
theorem all80 (l : List ByteArray) (hne : l ≠ []) (hll : l.length < 1000) : FnR Try.prog G 14 [.ptr 0 0 0 1] (tbX 3 l) (.sl 80 1 0 l.length) ((80, .vec 9 (.strs (alL l))) :: tbX 3 l) := by
  have h := (all_1 l hne hll).swap 144 80
  simpa [tbX, AV.map, AV.mapL, enMap, Ent.map, Row.map, swp] using h
theorem pick0m (x : Ac) (a : Int) : FnR Try.prog G 28 [.int .u8 a, .ptr 16 0 0 1, .ptr 96 0 0 1] [(16, .obj 30 (acV x)), (96, .obj 35 (.agg [.nils]))] (.str x.s) [(16, .obj 30 (acV x)), (96, .obj 35 (.agg [.nils]))] := by
  have h := ((pick0_fn x a).swap 0 16).swap 1 96
  simpa [acV, AV.map, AV.mapL, enMap, Ent.map, Row.map, swp] using h
theorem pick1m (x : Ac) (a : Int) (ha : 0 ≤ a ∧ a < 256) (a3 : List ByteArray) (h0 : a3 ≠ []) (hl : a3.length < 1000) : FnR Try.prog G 28 [.int .u8 a, .ptr 16 0 0 1, .ptr 96 0 0 1] [(16, .obj 30 (acV x)), (96, .obj 35 (.agg [.sl 80 1 0 a3.length])), (80, .vec 9 (.strs a3))]
    (.str (if x.raw = true then x.s else a3.getD (a.toNat % a3.length) ByteArray.empty)) [(16, .obj 30 (acV x)), (96, .obj 35 (.agg [.sl 80 1 0 a3.length])), (80, .vec 9 (.strs a3))] := by
  have h := (((pick1_fn x a ha a3 h0 hl).swap 0 16).swap 1 96).swap 2 80
  simpa [acV, AV.map, AV.mapL, enMap, Ent.map, Row.map, swp] using h
end Go.Proofs.Ytjnhpklhdikcdaa
