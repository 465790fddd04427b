/- An act on a table, by lists of terms. (printed by genE.py) -/
import Derived.Test.YtjnhpklhdikcdaaTnD
set_option linter.unusedVariables false
set_option linter.unusedSimpArgs false
namespace Go.Proofs.Ytjnhpklhdikcdaa
open Sx
set_option maxRecDepth 100000
set_option maxHeartbeats 1000000
theorem pkT_nil (x : Ac) (a : Int) : pkT [] x a = x.s := by rw [pkT, if_pos (.inr rfl)]
theorem pickT {T : Tms'} (hT : T ≠ []) (hl : T.length < 900) (x : Ac) (a : Int) (ha : 0 ≤ a ∧ a < 256) : FnR Try.prog G 28 [.int .u8 a, .ptr 16 0 0 1, .ptr 96 0 0 1] [(16, .obj 30 (acV x)), (96, .obj 35 (.agg [.sl 80 1 0 (encL T).length])), (80, .vec 9 (.strs (alL (encL T))))]
    (.str (pkT T x a)) [(16, .obj 30 (acV x)), (96, .obj 35 (.agg [.sl 80 1 0 (encL T).length])), (80, .vec 9 (.strs (alL (encL T))))] := by
  have hn := encL_ne hT
  have hal := alL_len (encL T)
  have h := pick1m x a ha (alL (encL T)) (fun q => hn (List.length_eq_zero_iff.1 (by rw [← hal, q]; rfl))) (by rw [hal, encL_len]; omega)
  rw [hal] at h
  have e : pkT T x a = (if x.raw = true then x.s else (alL (encL T)).getD (a.toNat % (encL T).length) ByteArray.empty) := by
    rw [pkT, encL_len]
    by_cases hr : x.raw = true
    · rw [if_pos hr, if_pos (.inl hr)]
    · rw [if_neg hr, if_neg (by rintro (q | q); exact hr q; exact hT q)]
  rw [e]
  exact h
theorem case0 {x : Ac} {kind : Nat} {ps : List ByteArray} (hq : mdQ [] x = some (kind, ps))
    (H0 : ¬ okP ps → FnR Try.prog G 13 [.ptr 0 0 0 1, acV x] (tabE []) (.tup [.str eS, .bool (nB eS)]) (tabE []))
    (H1 : okP ps → FnR Try.prog G 13 [.ptr 0 0 0 1, acV x] (tabE []) (.tup [.str (nmS 1), .bool (nB (nmS 1))]) (tbX 992 [encS kind ps])) :
    FnR Try.prog G 13 [.ptr 0 0 0 1, acV x] (tabS 3 []) (.tup [.str (mdN [] x), .bool (nB (mdN [] x))]) (tabS 992 (mdT [] x)) := by
  rw [tabS_nil, mdN, mdT, hq]
  by_cases h : okP ps
  · simp only [putN_nil h, putT_nil h]
    rw [tabS_ne 992 (by simp)]
    exact H1 h
  · simp only [putN_no h, putT_no h]
    rw [tabS_nil]
    exact H0 h
theorem case1 {T : Tms'} (hT : T ≠ []) {x : Ac} {kind : Nat} {ps : List ByteArray} (hq : mdQ T x = some (kind, ps))
    (H : FnR Try.prog G 13 [.ptr 0 0 0 1, acV x] (tbX 3 (encL T)) (.tup [.str (putN (encL T) kind ps), .bool (nB (putN (encL T) kind ps))]) (tbX 992 (putL (encL T) kind ps))) :
    FnR Try.prog G 13 [.ptr 0 0 0 1, acV x] (tabS 3 T) (.tup [.str (mdN T x), .bool (nB (mdN T x))]) (tabS 992 (mdT T x)) := by
  rw [tabS_ne 3 hT, mdN, mdT, hq]
  simp only
  rw [tabS_ne 992 (putT_ne hT kind ps), ← putT_enc]
  exact H
theorem made0_a (x : Ac) (hk : x.k.tmod 5 = 0) : FnR Try.prog G 13 [.ptr 0 0 0 1, acV x] (tabS 3 []) (.tup [.str (mdN [] x), .bool (nB (mdN [] x))]) (tabS 992 (mdT [] x)) := by
  have hq : mdQ [] x = some (1, [x.s]) := by rw [mdQ, if_pos hk]
  refine case0 hq (fun h => ?_) (fun h => ?_)
  · exact made0_00 (k := 0) (k' := 0) (a1 := []) (a2 := []) (b1 := []) (b2 := []) (a3 := []) (b3 := []) (pa := x.s) (pb := x.s) hk all_0 (atomT_00 x.s h)
  · exact mv0 288 992 (by omega) (by omega) (by omega) rfl (made0_01 (k := 0) (a1 := []) (a2 := []) (a3 := []) (pa := x.s) (pb := x.s) hk all_0 (mv0 992 288 (by omega) (by omega) (by omega) rfl (atomT_01 x.s h)))
theorem made0_b {T : Tms'} (hT : T ≠ []) (hl : T.length < 900) (x : Ac) (hk : x.k.tmod 5 = 0) (ha : 0 ≤ x.a ∧ x.a < 256) (hb : 0 ≤ x.b ∧ x.b < 256) : FnR Try.prog G 13 [.ptr 0 0 0 1, acV x] (tabS 3 T) (.tup [.str (mdN T x), .bool (nB (mdN T x))]) (tabS 992 (mdT T x)) := by
  have hle : (encL T).length < 1000 := by rw [encL_len]; omega
  refine case1 hT (by rw [mdQ, if_pos hk]) ?_
  exact mv1 288 992 (by omega) (by omega) (by omega) rfl (made0_11 (pa := x.s) (pb := x.s) hk (all80 (encL T) (encL_ne hT) hle) (mv1 992 288 (by omega) (by omega) (by omega) rfl (atomT_11 x.s (encL T) (encL_ne hT) hle)))
theorem made1_a (x : Ac) (hk : x.k.tmod 5 = 1) : FnR Try.prog G 13 [.ptr 0 0 0 1, acV x] (tabS 3 []) (.tup [.str (mdN [] x), .bool (nB (mdN [] x))]) (tabS 992 (mdT [] x)) := by
  have hq : mdQ [] x = some (2, [x.s]) := by rw [mdQ, if_neg (by omega), if_pos hk, pkT_nil]
  refine case0 hq (fun h => ?_) (fun h => ?_)
  · exact made1_00 (k := 0) (k' := 0) (a1 := []) (a2 := []) (b1 := []) (b2 := []) (a3 := []) (b3 := []) (pb := x.s) hk all_0 (pick0m x x.a) (pubT_00 x.s h)
  · exact mv0 352 992 (by omega) (by omega) (by omega) rfl (made1_01 (k := 0) (a1 := []) (a2 := []) (a3 := []) (pb := x.s) hk all_0 (pick0m x x.a) (mv0 992 352 (by omega) (by omega) (by omega) rfl (pubT_01 x.s h)))
theorem made1_b {T : Tms'} (hT : T ≠ []) (hl : T.length < 900) (x : Ac) (hk : x.k.tmod 5 = 1) (ha : 0 ≤ x.a ∧ x.a < 256) (hb : 0 ≤ x.b ∧ x.b < 256) : FnR Try.prog G 13 [.ptr 0 0 0 1, acV x] (tabS 3 T) (.tup [.str (mdN T x), .bool (nB (mdN T x))]) (tabS 992 (mdT T x)) := by
  have hle : (encL T).length < 1000 := by rw [encL_len]; omega
  refine case1 hT (by rw [mdQ, if_neg (by omega), if_pos hk]) ?_
  exact mv1 352 992 (by omega) (by omega) (by omega) rfl (made1_11 (pb := x.s) hk (all80 (encL T) (encL_ne hT) hle) (pickT hT hl x x.a ha) (mv1 992 352 (by omega) (by omega) (by omega) rfl (pubT_11 (pkT T x x.a) (encL T) (encL_ne hT) hle)))
theorem made3_a (x : Ac) (hk : x.k.tmod 5 = 3) : FnR Try.prog G 13 [.ptr 0 0 0 1, acV x] (tabS 3 []) (.tup [.str (mdN [] x), .bool (nB (mdN [] x))]) (tabS 992 (mdT [] x)) := by
  have hq : mdQ [] x = some (4, [x.s, x.s, x.s]) := by rw [mdQ, if_neg (by omega), if_neg (by omega), if_neg (by omega), if_pos hk, pkT_nil, pkT_nil]
  refine case0 hq (fun h => ?_) (fun h => ?_)
  · exact made3_00 (k := 0) (k' := 0) (a1 := []) (a2 := []) (b1 := []) (b2 := []) (a3 := []) (b3 := []) hk all_0 (pick0m x x.a) (pick0m x x.b) (hashT_00 [x.s, x.s, x.s] (by simp) h)
  · exact mv0 528 992 (by omega) (by omega) (by omega) rfl (made3_01 (k := 0) (a1 := []) (a2 := []) (a3 := []) hk all_0 (pick0m x x.a) (pick0m x x.b) (mv0 992 528 (by omega) (by omega) (by omega) rfl (hashT_01 [x.s, x.s, x.s] (by simp) h)))
theorem made3_b {T : Tms'} (hT : T ≠ []) (hl : T.length < 900) (x : Ac) (hk : x.k.tmod 5 = 3) (ha : 0 ≤ x.a ∧ x.a < 256) (hb : 0 ≤ x.b ∧ x.b < 256) : FnR Try.prog G 13 [.ptr 0 0 0 1, acV x] (tabS 3 T) (.tup [.str (mdN T x), .bool (nB (mdN T x))]) (tabS 992 (mdT T x)) := by
  have hle : (encL T).length < 1000 := by rw [encL_len]; omega
  refine case1 hT (by rw [mdQ, if_neg (by omega), if_neg (by omega), if_neg (by omega), if_pos hk]) ?_
  exact mv1 528 992 (by omega) (by omega) (by omega) rfl (made3_11  hk (all80 (encL T) (encL_ne hT) hle) (pickT hT hl x x.a ha) (pickT hT hl x x.b hb) (mv1 992 528 (by omega) (by omega) (by omega) rfl (hashT_11 [x.s, (pkT T x x.a), (pkT T x x.b)] (by simp) (encL T) (encL_ne hT) hle)))
theorem made4_a (x : Ac) (hk : x.k.tmod 5 = 4) (hn : 0 ≤ x.n ∧ x.n < 18446744073709551616) : FnR Try.prog G 13 [.ptr 0 0 0 1, acV x] (tabS 3 []) (.tup [.str (mdN [] x), .bool (nB (mdN [] x))]) (tabS 992 (mdT [] x)) := by
  have hq : mdQ [] x = some (5, [x.s, strOf (numK x.n 8), x.s, x.s]) := by rw [mdQ, if_neg (by omega), if_neg (by omega), if_neg (by omega), if_neg (by omega), pkT_nil, pkT_nil]
  refine case0 hq (fun h => ?_) (fun h => ?_)
  · exact made4_00 (k := 0) (k' := 0) (a1 := []) (a2 := []) (b1 := []) (b2 := []) (a3 := []) (b3 := []) hk all_0 (pick0m x x.a) (pick0m x x.b) (sealT_00 x.s x.n x.s x.s hn h)
  · exact mv0 544 992 (by omega) (by omega) (by omega) rfl (made4_01 (k := 0) (a1 := []) (a2 := []) (a3 := []) hk all_0 (pick0m x x.a) (pick0m x x.b) (mv0 992 544 (by omega) (by omega) (by omega) rfl (sealT_01 x.s x.n x.s x.s hn h)))
theorem made4_b {T : Tms'} (hT : T ≠ []) (hl : T.length < 900) (x : Ac) (hk : x.k.tmod 5 = 4) (ha : 0 ≤ x.a ∧ x.a < 256) (hb : 0 ≤ x.b ∧ x.b < 256) (hn : 0 ≤ x.n ∧ x.n < 18446744073709551616) : FnR Try.prog G 13 [.ptr 0 0 0 1, acV x] (tabS 3 T) (.tup [.str (mdN T x), .bool (nB (mdN T x))]) (tabS 992 (mdT T x)) := by
  have hle : (encL T).length < 1000 := by rw [encL_len]; omega
  refine case1 hT (by rw [mdQ, if_neg (by omega), if_neg (by omega), if_neg (by omega), if_neg (by omega)]) ?_
  exact mv1 544 992 (by omega) (by omega) (by omega) rfl (made4_11  hk (all80 (encL T) (encL_ne hT) hle) (pickT hT hl x x.a ha) (pickT hT hl x x.b hb) (mv1 992 544 (by omega) (by omega) (by omega) rfl (sealT_11 (pkT T x x.a) x.n x.s (pkT T x x.b) hn (encL T) (encL_ne hT) hle)))
theorem made2_a (x : Ac) (hk : x.k.tmod 5 = 2) : FnR Try.prog G 13 [.ptr 0 0 0 1, acV x] (tabS 3 []) (.tup [.str (mdN [] x), .bool (nB (mdN [] x))]) (tabS 992 (mdT [] x)) := by
  have hq : mdQ [] x = none := by rw [mdQ, if_neg (by omega), if_neg (by omega), if_pos hk]; rfl
  have c : FnR Try.prog G 21 [.ptr 0 0 0 1, .str x.s, .str x.s] (tabE []) (.tup [.str eS, .bool (nB eS)]) (tabE []) := by rw [nB_e]; exact dh_0 x.s x.s
  rw [tabS_nil, mdN, mdT, hq]
  simp only
  rw [tabS_nil]
  exact made2_00 (k := 0) (k' := 0) (a1 := []) (a2 := []) (b1 := []) (b2 := []) (a3 := []) (b3 := []) hk all_0 (pick0m x x.a) (pick0m x x.b) c
theorem made2_b {T : Tms'} (hT : T ≠ []) (hl : T.length < 900) (hok : okTs T) (x : Ac) (hk : x.k.tmod 5 = 2) (ha : 0 ≤ x.a ∧ x.a < 256) (hb : 0 ≤ x.b ∧ x.b < 256) : FnR Try.prog G 13 [.ptr 0 0 0 1, acV x] (tabS 3 T) (.tup [.str (mdN T x), .bool (nB (mdN T x))]) (tabS 992 (mdT T x)) := by
  have hle : (encL T).length < 1000 := by rw [encL_len]; omega
  have hne := encL_ne hT
  have hq : mdQ T x = (pubY T (pkT T x x.b)).map fun y => (3, srt (pkT T x x.a) y) := by rw [mdQ, if_neg (by omega), if_neg (by omega), if_pos hk]
  have no : pubY T (pkT T x x.b) = none → FnR Try.prog G 21 [.ptr 0 0 0 1, .str (pkT T x x.a), .str (pkT T x x.b)] (tbX 3 (encL T)) (.tup [.str eS, .bool false]) (tbX 3 (encL T)) →
      FnR Try.prog G 13 [.ptr 0 0 0 1, acV x] (tabS 3 T) (.tup [.str (mdN T x), .bool (nB (mdN T x))]) (tabS 992 (mdT T x)) := by
    intro h c
    rw [h] at hq
    rw [← nB_e] at c
    rw [tabS_ne 3 hT, mdN, mdT, hq]
    simp only [Option.map_none]
    rw [tabS_ne 992 hT]
    exact mv1 448 992 (by omega) (by omega) (by omega) rfl (made2_11 hk (all80 (encL T) hne hle) (pickT hT hl x x.a ha) (pickT hT hl x x.b hb) (mv3 448 (by omega) rfl c))
  cases hf : fndI T (pkT T x x.b) with
  | none => exact no (by rw [pubY, hf]; rfl) (dhT_none _ hne _ _ (fndI_none hf))
  | some i =>
    obtain ⟨t, ht, _⟩ := fndI_some hf
    have hg := fndI_get (by omega) hf ht
    have hot := hok t (List.mem_of_getElem? ht)
    have hp : pubY T (pkT T x x.b) = match some t with | some (2, y :: _) => some y | _ => none := by rw [pubY, hf, ← ht]; rfl
    obtain ⟨kd, ps⟩ := t
    cases ps with
    | nil => exact absurd rfl hot.2.1
    | cons y ps =>
      by_cases h2 : kd = 2
      · subst h2
        have hp' : pubY T (pkT T x x.b) = some y := hp
        rw [hp'] at hq
        refine case1 hT hq ?_
        exact mv1 448 992 (by omega) (by omega) (by omega) rfl (made2_11 hk (all80 (encL T) hne hle) (pickT hT hl x x.a ha) (pickT hT hl x x.b hb) (mv1 992 448 (by omega) (by omega) (by omega) rfl (dhT_have _ hne hle _ _ y ps hot hg)))
      · refine no ?_ (dhT_oth _ hne _ _ kd y ps hot h2 hg)
        rw [hp]
        split
        · next q => cases q; exact absurd rfl h2
        · rfl
/-- What numbers an act has. -/
def okA (x : Ac) : Prop := (0 ≤ x.k ∧ x.k < 256) ∧ (0 ≤ x.a ∧ x.a < 256) ∧ (0 ≤ x.b ∧ x.b < 256) ∧ (0 ≤ x.n ∧ x.n < 18446744073709551616)
theorem made_fn (T : Tms') (hok : okTs T) (hl : T.length < 900) (x : Ac) (hx : okA x) : FnR Try.prog G 13 [.ptr 0 0 0 1, acV x] (tabS 3 T) (.tup [.str (mdN T x), .bool (nB (mdN T x))]) (tabS 992 (mdT T x)) := by
  obtain ⟨h1, h2, h3, h4⟩ := hx
  have hm : x.k.tmod 5 = 0 ∨ x.k.tmod 5 = 1 ∨ x.k.tmod 5 = 2 ∨ x.k.tmod 5 = 3 ∨ x.k.tmod 5 = 4 := by
    rw [Int.tmod_eq_emod_of_nonneg h1.1]; omega
  by_cases hT : T = []
  · subst hT
    rcases hm with hk | hk | hk | hk | hk
    · exact made0_a x hk
    · exact made1_a x hk
    · exact made2_a x hk
    · exact made3_a x hk
    · exact made4_a x hk h4
  · rcases hm with hk | hk | hk | hk | hk
    · exact made0_b hT hl x hk h2 h3
    · exact made1_b hT hl x hk h2 h3
    · exact made2_b hT hl hok x hk h2 h3
    · exact made3_b hT hl x hk h2 h3
    · exact made4_b hT hl x hk h2 h3 h4
end Go.Proofs.Ytjnhpklhdikcdaa
