/- The document's act, by lists of terms. -/
import Derived.Test.YtjnhpklhdikcdaaTnS
set_option linter.unusedVariables false
set_option linter.unusedSimpArgs false
namespace Go.Proofs.Ytjnhpklhdikcdaa
open Sx
set_option maxRecDepth 100000
set_option maxHeartbeats 1000000
theorem theirs_some {T : Tms'} {x : Ac} {kind : Nat} {ps : List ByteArray} (hq : mdQ T x = some (kind, ps))
    (H : FnR Try.prog G 12 [.lst 2 (T.map tmV), acV x] [] (.tup [.lst 2 ((tPut T kind ps).map tmV), .str (putN (encL T) kind ps), .bool (nB (putN (encL T) kind ps))]) []) :
    FnR Try.prog G 12 [.lst 2 (T.map tmV), acV x] [] (.tup [.lst 2 ((mdT T x).map tmV), .str (mdN T x), .bool (nB (mdN T x))]) [] := by
  rw [mdN, mdT, hq]; exact H
theorem theirs_fn (T : Tms') (hok : okTs T) (hw : wfT T) (hl : T.length < 900) (x : Ac) (hx : okA x) : FnR Try.prog G 12 [.lst 2 (T.map tmV), acV x] [] (.tup [.lst 2 ((mdT T x).map tmV), .str (mdN T x), .bool (nB (mdN T x))]) [] := by
  obtain ⟨h1, ha, hb, hn⟩ := hx
  have hm : x.k.tmod 5 = 0 ∨ x.k.tmod 5 = 1 ∨ x.k.tmod 5 = 2 ∨ x.k.tmod 5 = 3 ∨ x.k.tmod 5 = 4 := by
    rw [Int.tmod_eq_emod_of_nonneg h1.1]; omega
  have pa := rpickm T hl x x.a ha
  have pb := rpickm T hl x x.b hb
  rcases hm with hk | hk | hk | hk | hk
  · have hq : mdQ T x = some (1, [x.s]) := by rw [mdQ, if_pos hk]
    exact theirs_some hq (theirs0 T x _ _ _ _ hk pa pb (rput_fn T hok hl 1 [x.s] (by omega) (by simp) (by simp)))
  · have hq : mdQ T x = some (2, [pkT T x x.a]) := by rw [mdQ, if_neg (by omega), if_pos hk]
    exact theirs_some hq (theirs1 T x _ _ _ _ hk pa pb (rput_fn T hok hl 2 [pkT T x x.a] (by omega) (by simp) (by simp)))
  · have hq : mdQ T x = (pubY T (pkT T x x.b)).map fun y => (3, srt (pkT T x x.a) y) := by rw [mdQ, if_neg (by omega), if_neg (by omega), if_pos hk]
    have no : pubY T (pkT T x x.b) = none → FnR Try.prog G 25 [.lst 2 (T.map tmV), .str (pkT T x x.a), .str (pkT T x x.b)] [] (.tup [.lst 2 (T.map tmV), .str eS, .bool false]) [] →
        FnR Try.prog G 12 [.lst 2 (T.map tmV), acV x] [] (.tup [.lst 2 ((mdT T x).map tmV), .str (mdN T x), .bool (nB (mdN T x))]) [] := by
      intro h c
      rw [h] at hq
      rw [← nB_e] at c
      rw [mdN, mdT, hq]
      exact theirs2 T x _ _ _ _ hk pa pb c
    cases hf : fndI T (pkT T x x.b) with
    | none => exact no (by rw [pubY, hf]; rfl) (rdh_no T hl _ _ hf)
    | some i =>
      obtain ⟨t, ht, he⟩ := fndI_some hf
      have hp : pubY T (pkT T x x.b) = match some t with | some (2, y :: _) => some y | _ => none := by rw [pubY, hf, ← ht]; rfl
      obtain ⟨kd, ps⟩ := t
      by_cases h2 : kd = 2
      · subst h2
        obtain ⟨y, hy⟩ := hw _ (List.mem_of_getElem? ht) (.inr rfl)
        have hy : ps = [y] := hy
        subst hy
        have hp' : pubY T (pkT T x x.b) = some y := hp
        rw [hp'] at hq
        refine theirs_some hq (theirs2 T x _ _ _ _ hk pa pb ?_)
        rw [he]
        exact rdh_have T hok hl _ i y ht
      · refine no ?_ (by rw [he]; exact rdh_oth T hl _ i kd ps ht h2)
        rw [hp]
        split
        · next q => cases q; exact absurd rfl h2
        · rfl
  · have hq : mdQ T x = some (4, [x.s, pkT T x x.a, pkT T x x.b]) := by rw [mdQ, if_neg (by omega), if_neg (by omega), if_neg (by omega), if_pos hk]
    exact theirs_some hq (theirs3 T x _ _ _ _ hk pa pb (rput_fn T hok hl 4 [x.s, pkT T x x.a, pkT T x x.b] (by omega) (by simp) (by simp)))
  · have hq : mdQ T x = some (5, [pkT T x x.a, strOf (numK x.n 8), x.s, pkT T x x.b]) := by rw [mdQ, if_neg (by omega), if_neg (by omega), if_neg (by omega), if_neg (by omega)]
    exact theirs_some hq (theirs4 T x _ _ _ _ hk hn pa pb (rput_fn T hok hl 5 [pkT T x x.a, strOf (numK x.n 8), x.s, pkT T x x.b] (by omega) (by simp) (by simp)))
theorem tk_wf {T : Tms'} (h : wfT T) (l : List Ac) (k : Nat) : wfT (tk T l k) := run_wf _ _ h
end Go.Proofs.Ytjnhpklhdikcdaa
