/- Tables behind several acts, plainly. -/
import Derived.Test.YtjnhpklhdikcdaaTnF
set_option linter.unusedVariables false
set_option linter.unusedSimpArgs false
namespace Go.Proofs.Ytjnhpklhdikcdaa
open Sx
set_option maxRecDepth 100000
set_option maxHeartbeats 1000000
/-- The terms behind the first k acts. -/
def tk (T : Tms') (l : List Ac) (k : Nat) : Tms' := (l.take k).foldl mdT T
theorem tk_zero (T : Tms') (l : List Ac) : tk T l 0 = T := rfl
theorem tk_succ (T : Tms') (l : List Ac) (k : Nat) (h : k < l.length) : tk T l (k + 1) = mdT (tk T l k) l[k] := by
  rw [tk, List.take_succ_eq_append_getElem h, List.foldl_append]
  rfl
theorem run_ok : ∀ (l : List Ac) (T : Tms'), okTs T → okTs (l.foldl mdT T)
  | [], T, h => h
  | x :: l, T, h => run_ok l _ (mdT_ok h x)
theorem tk_ok {T : Tms'} (h : okTs T) (l : List Ac) (k : Nat) : okTs (tk T l k) := run_ok _ _ h
theorem run_len : ∀ (l : List Ac) (T : Tms'), (l.foldl mdT T).length ≤ T.length + l.length
  | [], T => by simp
  | x :: l, T => by
    have h1 := run_len l (mdT T x)
    have h2 := mdT_len T x
    simp only [List.foldl_cons, List.length_cons]
    omega
theorem tk_len (T : Tms') (l : List Ac) (k : Nat) : (tk T l k).length ≤ T.length + l.length := by
  have h := run_len (l.take k) T
  have : (l.take k).length ≤ l.length := by simp; omega
  rw [tk]; omega
theorem run_pre : ∀ (l : List Ac) (T : Tms'), T <+: l.foldl mdT T
  | [], T => List.prefix_refl _
  | x :: l, T => (mdT_pre T x).trans (run_pre l _)
theorem tk_pre (T : Tms') (l : List Ac) (k : Nat) : T <+: tk T l k := run_pre _ _
theorem pre_ne {T T' : Tms'} (h : T <+: T') (hn : T ≠ []) : T' ≠ [] := by
  rintro rfl
  exact hn (List.prefix_nil.1 h)
theorem tk_up {T : Tms'} {l : List Ac} {k : Nat} (h : k < l.length) (hn : tk T l k ≠ []) : tk T l (k + 1) ≠ [] := by
  rw [tk_succ T l k h]
  exact mdT_ne hn _
theorem okTs_nil : okTs [] := fun _ h => by cases h
/-- Names of fewer terms are a beginning of the names of more. -/
theorem alL_take (l l' : List ByteArray) (h : l.length ≤ l'.length) : (alL l').take l.length = alL l := by
  rw [alL, alL, ← List.map_take, List.take_range, Nat.min_eq_left h]
theorem hvB_len {l : List Ac} (h : hvB l = false) : l.length ≤ 60 := by
  rw [hvB, Bool.or_eq_false_iff] at h
  have := of_decide_eq_false h.1
  omega
theorem all_X (l : List ByteArray) (hne : l ≠ []) (hll : l.length < 1000) (X : Nat) (hX : 3 < X) : FnR Try.prog G 14 [.ptr 0 0 0 1] (tbX 3 l) (.sl X 1 0 l.length) ((X, .vec 9 (.strs (alL l))) :: tbX 3 l) := by
  have g0 : ¬ (0 : Nat) = X := by omega
  have g1 : ¬ (1 : Nat) = X := by omega
  have g2 : ¬ (2 : Nat) = X := by omega
  have g3 : ¬ (3 : Nat) = X := by omega
  have h := (all_1 l hne hll).swap 144 X
  simp [tbX, AV.map, AV.mapL, enMap, Ent.map, Row.map, swp, g0, g1, g2, g3] at h
  exact h
theorem eSe' : eS = { data := #[] } := rfl
theorem rep_len (n : Nat) (z : Int) : (List.take n (List.drop 0 (List.take n (List.replicate n z)))).length = n := by simp
theorem putL_no {l : List ByteArray} {kind : Nat} {ps : List ByteArray} (h : ¬ okP ps) : putL l kind ps = l := by rw [putL, if_neg h]
theorem putN_no' {l : List ByteArray} {kind : Nat} {ps : List ByteArray} (h : ¬ okP ps) : putN l kind ps = eS := by rw [putN, if_neg h]
theorem okP_not {ps : List ByteArray} {s : ByteArray} (h : s ∈ ps) (hs : 4000 < s.size) : ¬ okP ps := fun q => by have := q s h; omega
/-- Contracts of the table's methods, their row of names told under two names. -/
theorem stay_lst1 {x : AV} (h : stay x) : ∀ y ∈ [AV.ptr 0 0 0 1, x], stay y := by
  intro y hy
  simp only [List.mem_cons, List.not_mem_nil, or_false] at hy
  rcases hy with rfl | rfl
  · exact stay_ptr
  · exact h
theorem stay_lst2 {x z : AV} (h : stay x) (h' : stay z) : ∀ y ∈ [AV.ptr 0 0 0 1, x, z], stay y := by
  intro y hy
  simp only [List.mem_cons, List.not_mem_nil, or_false] at hy
  rcases hy with rfl | rfl | rfl
  · exact stay_ptr
  · exact h
  · exact h'
theorem atomXY (s : ByteArray) (l : List ByteArray) (hne : l ≠ []) (hll : l.length < 1000) (X Y : Nat) (hX : 2 < X) (hY : 2 < Y) (hXY : X ≠ Y) (hX9 : X ≠ 992) : FnR Try.prog G 18 [.ptr 0 0 0 1, .str s] (tbX X l) (.str (putN l 1 [s])) (tbX Y (putL l 1 [s])) :=
  renT X Y hX hY hXY hX9 (stay_lst1 (stay_str _)) (stay_str _) (atomT_11 s l hne hll)
theorem pubXY (s : ByteArray) (l : List ByteArray) (hne : l ≠ []) (hll : l.length < 1000) (X Y : Nat) (hX : 2 < X) (hY : 2 < Y) (hXY : X ≠ Y) (hX9 : X ≠ 992) : FnR Try.prog G 19 [.ptr 0 0 0 1, .str s] (tbX X l) (.str (putN l 2 [s])) (tbX Y (putL l 2 [s])) :=
  renT X Y hX hY hXY hX9 (stay_lst1 (stay_str _)) (stay_str _) (pubT_11 s l hne hll)
theorem hashXY (ps : List ByteArray) (hl : ps.length ≤ 7) (l : List ByteArray) (hne : l ≠ []) (hll : l.length < 1000) (X Y : Nat) (hX : 2 < X) (hY : 2 < Y) (hXY : X ≠ Y) (hX9 : X ≠ 992) : FnR Try.prog G 20 [.ptr 0 0 0 1, .lstS ps] (tbX X l) (.str (putN l 4 ps)) (tbX Y (putL l 4 ps)) :=
  renT X Y hX hY hXY hX9 (stay_lst1 (stay_lst _)) (stay_str _) (hashT_11 ps hl l hne hll)
theorem sealXY (s : ByteArray) (n : Int) (ad t : ByteArray) (hn : 0 ≤ n ∧ n < 18446744073709551616) (l : List ByteArray) (hne : l ≠ []) (hll : l.length < 1000) (X Y : Nat) (hX : 2 < X) (hY : 2 < Y) (hXY : X ≠ Y) (hX9 : X ≠ 992) :
    FnR Try.prog G 22 [.ptr 0 0 0 1, .str s, .int .u64 n, .str ad, .str t] (tbX X l) (.str (putN l 5 [s, strOf (numK n 8), ad, t])) (tbX Y (putL l 5 [s, strOf (numK n 8), ad, t])) := by
  refine renT X Y hX hY hXY hX9 ?_ (stay_str _) (sealT_11 s n ad t hn l hne hll)
  intro y hy
  simp only [List.mem_cons, List.not_mem_nil, or_false] at hy
  rcases hy with rfl | rfl | rfl | rfl | rfl
  · exact stay_ptr
  · exact stay_str _
  · exact stay_int _ _
  · exact stay_str _
  · exact stay_str _
theorem allXY (l : List ByteArray) (hne : l ≠ []) (hll : l.length < 1000) (X Y : Nat) (hX : 3 < X) (hY : 3 < Y) (hXY : X ≠ Y) : FnR Try.prog G 14 [.ptr 0 0 0 1] (tbX X l) (.sl Y 1 0 l.length) ((Y, .vec 9 (.strs (alL l))) :: tbX X l) := by
  have g0 : ¬ (0 : Nat) = X := by omega
  have g1 : ¬ (1 : Nat) = X := by omega
  have g2 : ¬ (2 : Nat) = X := by omega
  have g3 : ¬ (3 : Nat) = X := by omega
  have g4 : ¬ Y = X := fun q => hXY q.symm
  have g5 : ¬ Y = 3 := by omega
  have h := (all_X l hne hll Y hY).swap 3 X
  simp [tbX, AV.map, AV.mapL, enMap, Ent.map, Row.map, swp, g0, g1, g2, g3, g4, g5] at h
  exact h
/-- Parts of any name, by a list of terms. -/
def prT (T : Tms') (p : ByteArray) : AV := match (fndI T p).bind fun i => T[i]? with
  | some t => .tup [.int .u8 (t.1 : Nat), .lstS t.2, .bool true]
  | none => .tup [.int .u8 0, .nils, .bool false]
theorem parts_fn (T : Tms') (hT : T ≠ []) (hok : okTs T) (hl : T.length < 900) (p : ByteArray) (X : Nat) (hX : 2 < X) : FnR Try.prog G 15 [.ptr 0 0 0 1, .str p] (tbX X (encL T)) (prT T p) (tbX X (encL T)) := by
  have hne := encL_ne hT
  cases hf : fndI T p with
  | none =>
    have e : prT T p = .tup [.int .u8 0, .nils, .bool false] := by rw [prT, hf]; rfl
    rw [e]
    exact renS X hX (stay_lst1 (stay_str _)) (fun _ _ _ _ => rfl) (partsT_none _ hne p (fndI_none hf))
  | some i =>
    obtain ⟨t, ht, _⟩ := fndI_some hf
    have hg := fndI_get (by omega) hf ht
    have hot := hok t (List.mem_of_getElem? ht)
    have e : prT T p = .tup [.int .u8 (t.1 : Nat), .lstS t.2, .bool true] := by rw [prT, hf]; show (match T[i]? with | some t => _ | none => _) = _; rw [ht]
    rw [e]
    obtain ⟨kd, ps⟩ := t
    cases ps with
    | nil => exact absurd rfl hot.2.1
    | cons y ps => exact renS X hX (stay_lst1 (stay_str _)) (fun _ _ _ _ => rfl) (partsT_have _ hne p kd y ps hot hg)
theorem chunks_rep : ∀ n, chunks 2 n (List.replicate n [AV.int .u8 0, AV.nils]).flatten = some (List.replicate n (.agg [.int .u8 0, .nils]))
  | 0 => rfl
  | n + 1 => by
    have h0 : ∀ l : List AV, takeC l 0 = some [] := fun l => by cases l <;> rfl
    have h1 : ∀ l : List AV, dropC l 0 = some l := fun l => by cases l <;> rfl
    rw [List.replicate_succ, List.flatten_cons, chunks]
    simp [chunks_rep n, List.replicate_succ, takeC, dropC, csize, h0, h1]
theorem viewEL_rep {e h : Ents} : ∀ n, viewEL e h 0 n (List.replicate n (AV.agg [.int .u8 0, .nils])) = ret (List.replicate n (.agg [.int .u8 0, .nils]))
  | 0 => by simp [viewEL]
  | n + 1 => by
    rw [List.replicate_succ, viewEL, viewEL_rep n]
    simp [viewE, viewCs, viewC, req, ret, bnd, AV.nmIn, AV.nmInL]
theorem sEqs (a : List ByteArray) : sameS a a = true := by rw [sameS_eq]; simp
end Go.Proofs.Ytjnhpklhdikcdaa
