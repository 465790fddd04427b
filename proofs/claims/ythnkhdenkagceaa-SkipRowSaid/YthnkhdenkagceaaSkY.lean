/- Skipped keys: the document's Put, Take, Drop and Heads, their results told by value. -/
import Derived.Test.YthnkhdenkagceaaSkX
set_option linter.unusedVariables false
set_option linter.unusedSimpArgs false
namespace Go.Proofs.Ythnkhdenkagceaa
open Sx
set_option maxRecDepth 100000
set_option maxHeartbeats 1000000
theorem viewEL_at {e h : Ents} : ∀ (L : List It) (off len : Nat), off + len ≤ L.length → viewEL e h off len (L.map itV) = ret (((L.drop off).take len).map itV)
  | [], off, 0, _ => by rw [List.take_zero]; cases off <;> simp [viewEL]
  | _ :: _, off, 0, _ => by rw [List.take_zero]; cases off <;> simp [viewEL]
  | [], off, len + 1, hle => by simp at hle
  | x :: L, 0, len + 1, hle => by
    have ih := @viewEL_at e h L 0 len (by simp at hle ⊢; omega)
    rw [List.map_cons, viewEL, ih]
    simp [viewE, itV, req, ret, bnd, AV.nmIn, AV.nmInL]
  | x :: L, off + 1, len + 1, hle => by
    rw [List.map_cons, viewEL, viewEL_at L off (len + 1) (by simp at hle ⊢; omega)]
    rfl
theorem vwL_row {X : Nat} {L : List It} {off len : Nat} {b : Bool} {k : Int} (h : off + len ≤ L.length) :
    Ok (vw.vwL [(X, rw2 L)] [] [.sl X 3 off len, .bool b, .int .i64 k]) ([.lst 3 (((L.drop off).take len).map itV), .bool b, .int .i64 k], true) := by
  have hm : (L.map itV).length = L.length := List.length_map ..
  simp [vw.vwL, vw, viewL, viewEL_at L off len h, Ent.row, rw2, lk, opt, bnd, req, ret, AV.nmIn, hm, h]
  exact ⟨True, rfl, trivial⟩
theorem rput_v (l : List It) (x : It) (hl : l.length ≤ 150) :
    FnR Try.prog G 12 [.lst 3 (l.map itV), itV x] [] (.tup [.lst 3 ((putS l x).map itV), .bool (putB l x), .int .i64 (putE l x)]) [] := by
  cases hb : badI x with
  | true =>
    have := rput_bad l x hb
    simpa only [putS, putB, putE, hb, Bool.true_or, if_true, Bool.not_true, Bool.false_and] using this
  | false =>
    by_cases hh : 0 ≤ fI (isB x) l
    · have := rput_have l x (by omega) hb hh
      simpa only [putS, putB, putE, hb, hh, decide_true, Bool.or_true, if_true, Bool.not_true, Bool.false_and, Bool.false_eq_true, if_false] using this
    · have := rput_new_at 0 l x (by omega) hb hh hl
      simp only [putS, putB, putE, hb, hh, decide_false, Bool.or_self, if_false, Bool.not_false, Bool.true_and, Bool.false_eq_true]
      have ht : (l ++ [x]).drop (l.length + 1 - 40) = List.take (l.length + 1 - (l.length + 1 - 40)) ((l ++ [x]).drop (l.length + 1 - 40)) :=
        (List.take_of_length_le (by simp)).symm
      rw [ht]
      exact this.valT (F := true) (vwL_row (by simp; omega))
theorem rtake_v (l : List It) (h : ByteArray) (n : Int) (hl : l.length ≤ 150) :
    FnR Try.prog G 14 [.lst 3 (l.map itV), .str h, .int .i64 n] [] (.tup [.lst 3 ((takS l h n).map itV), .str (takK l h n), .int .i64 (takE l h n)]) [] := by
  rcases fI_spec (isB (qI h n)) l with ⟨h1, _⟩ | ⟨i, hi, h1, _⟩
  · have hf : fT l h n = -1 := h1
    simpa only [takS, takK, takE, hf, if_true] using rtake_none l h n (by omega) hf
  · have hf : fT l h n = (i : Int) := h1
    have hne : ¬ ((i : Int) = -1) := by omega
    have hg : l.getD i default = l[i] := by simp [List.getD_eq_getElem?_getD, hi]
    simp only [takS, takK, takE, hf, hne, if_false, Int.toNat_natCast, outL, hg]
    have := rtake_at 0 l h n i hl hi hf
    generalize l.take i ++ l.drop (i + 1) = L at *
    have ht : L = List.take L.length (List.drop 0 L) := by rw [List.drop_zero, List.take_length]
    have h2 : FnR Try.prog G 14 [.lst 3 (l.map itV), .str h, .int .i64 n] [] (.tup [.lst 3 ((List.take L.length (List.drop 0 L)).map itV), .str l[i].k, .int .i64 0]) [] := by
      refine this.valT (F := true) ?_
      have hm : (L.map itV).length = L.length := List.length_map ..
      simp [vw.vwL, vw, viewL, viewEL_its, Ent.row, rw2, lk, opt, bnd, req, ret, AV.nmIn, hm]
      exact ⟨True, rfl, trivial⟩
    rwa [← ht] at h2
theorem rdrop_v (l : List It) (h : ByteArray) (hl : l.length ≤ 1000000) :
    FnR Try.prog G 16 [.lst 3 (l.map itV), .str h] [] (.tup [.lst 3 ((noH h l).map itV), .int .i64 ((l.length - (noH h l).length : Nat) : Int)]) [] := by
  have := rdrop 0 l h hl
  have hd : dpK h l l.length = noH h l := by rw [dpK_all]; rfl
  rw [hd] at this
  have hle : (noH h l).length ≤ l.length := List.length_filter_le _ _
  have hc : ((l.length : Int) - ((noH h l).length : Int)) = ((l.length - (noH h l).length : Nat) : Int) := by omega
  rw [hc] at this
  generalize noH h l = L at *
  by_cases h0 : L.length = 0
  · have hL : L = [] := List.length_eq_zero_iff.1 h0
    simp only [dpV, dpE, if_pos h0] at this
    rw [hL] at this ⊢
    exact this.subT (by simp [AV.subL, AV.sub])
  · simp only [dpV, dpE, if_neg h0] at this
    refine this.valT (F := true) ?_
    have hm : (L.map itV).length = L.length := List.length_map ..
    simp [vw.vwL, vw, viewL, viewEL_its, Ent.row, lk, opt, bnd, req, ret, AV.nmIn, hm]
    exact ⟨True, rfl, trivial⟩
theorem rheads_v (l : List It) (hl : l.length ≤ 1000000) :
    FnR Try.prog G 21 [.lst 3 (l.map itV)] [] (.lstS (hdK l l.length)) [] := by
  by_cases h0 : l.length = 0
  · have hL : l = [] := List.length_eq_zero_iff.1 h0
    subst hL
    exact rheads_none.subR (by simp [AV.sub, hdK])
  · refine (rheads 0 l hl h0).val (F := true) rfl ?_
    simp [vw.vwL, vw, viewR, Ent.row, lk, opt, bnd, req, ret, AV.nmIn]
    exact ⟨True, rfl, trivial⟩
end Go.Proofs.Ythnkhdenkagceaa
