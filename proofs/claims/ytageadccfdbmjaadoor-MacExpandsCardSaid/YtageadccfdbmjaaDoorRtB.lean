/- The document's HMAC. -/
import Derived.Test.YtageadccfdbmjaaDoorRtA
import Derived.Test.YtageadccfdbmjaaDoorShO
-- TT 2 3 4 5 22 24 26 28 59 71
-- SIMP Sx.stP
-- TOUCH 34 1
set_option linter.unusedVariables false
set_option linter.unusedSimpArgs false
namespace Go.Proofs.YtageadccfdbmjaaDoor
open Sx
set_option maxRecDepth 100000
set_option maxHeartbeats 2000000
theorem xr8 (x y : Int) : 0 ≤ bits .xor .u8 x y ∧ bits .xor .u8 x y < 256 := by
  show 0 ≤ IntKind.u8.wrap _ ∧ IntKind.u8.wrap _ < 256
  rw [IntKind.wrap_u8]; omega
theorem outR_bytes (s : List Int) : ∀ i, ∀ x ∈ outR s i, 0 ≤ x ∧ x < 256
  | 0, x, h => by have := List.eq_of_mem_replicate h; omega
  | i + 1, x, h => by
    have hin : ∀ (v : Int) (k : Nat), ∀ x ∈ (inR (outR s i) i v k).1, 0 ≤ x ∧ x < 256 := by
      intro v k
      induction k with
      | zero => exact outR_bytes s i
      | succ k ih =>
        intro x hx
        rw [inR_s] at hx
        rcases List.mem_or_eq_of_mem_set hx with hx | rfl
        · exact ih x hx
        · rw [IntKind.wrap_u8]; omega
    exact hin _ 4 x h
theorem dig_bytes (b : List Int) (hb : b.length ≤ 100000) (hf : ∀ x ∈ b, 0 ≤ x ∧ x < 256) : ∀ x ∈ dig b, 0 ≤ x ∧ x < 256 := by
  rw [← sumR_dig b hb hf, sumR]; exact outR_bytes _ 8
theorem kB_bytes (y : Int) (key : List Int) : ∀ x ∈ kB y key, 0 ≤ x ∧ x < 256 := by
  have hl : (kZ (kD key)).length = 64 := kZ_len (kD_len key)
  have h : ∀ n, n ≤ 64 → ∀ i, i < n → 0 ≤ (kX y (kZ (kD key)) n).getD i 0 ∧ (kX y (kZ (kD key)) n).getD i 0 < 256 := by
    intro n
    induction n with
    | zero => intro _ i hi; omega
    | succ n ih =>
      intro hn i hi
      have hxl := kX_len y (kZ (kD key)) n
      rw [kX]
      by_cases hin : n = i
      · subst hin; rw [getD_set_self (by omega)]; exact xr8 _ _
      · rw [getD_set_ne hin]; exact ih (by omega) i (by omega)
  intro x hx
  obtain ⟨i, hi, rfl⟩ := List.getElem_of_mem hx
  have hi' : i < 64 := by rw [kB_len] at hi; exact hi
  have := h 64 (Nat.le_refl _) i hi'
  rw [← kB, List.getD_eq_getElem?_getD, List.getElem?_eq_getElem hi] at this
  exact this
theorem rmac_fn (key b : List Int) (hk : key.length ≤ 80000) (hb : b.length ≤ 80000) (hK : ∀ x ∈ key, 0 ≤ x ∧ x < 256) (hB : ∀ x ∈ b, 0 ≤ x ∧ x < 256) : FnR Tryd.prog G 21 [.lstI .u8 key, .lstI .u8 b] [] (.agg [.ints .u8 32 (hmac key b)]) [] := by
  have hA54 := kB_len 54 key
  have hA92 := kB_len 92 key
  have b1 : ∀ x ∈ kB 54 key ++ b, 0 ≤ x ∧ x < 256 := fun x hx => by
    rcases List.mem_append.1 hx with h | h
    · exact kB_bytes 54 key x h
    · exact hB x h
  have l1 : (kB 54 key ++ b).length ≤ 100000 := by rw [List.length_append]; omega
  have d1 := dig_bytes _ l1 b1
  have hdl := dig_len (kB 54 key ++ b)
  have b2 : ∀ x ∈ kB 92 key ++ dig (kB 54 key ++ b), 0 ≤ x ∧ x < 256 := fun x hx => by
    rcases List.mem_append.1 hx with h | h
    · exact kB_bytes 92 key x h
    · exact d1 x h
  have l2 : (kB 92 key ++ dig (kB 54 key ++ b)).length ≤ 100000 := by rw [List.length_append]; omega
  have c1 := rsum_fn _ l1
  rw [sumR_dig _ l1 b1] at c1
  have c2 := rsum_fn _ l2
  rw [sumR_dig _ l2 b2] at c2
  have hdl2 := dig_len (kB 92 key ++ dig (kB 54 key ++ b))
  have f1 := filled_own 32 key 54 (by omega) hK
  have f2 := filled_own 144 key 92 (by omega) hK
  rw [hmac]
  generalize hD2 : dig (kB 92 key ++ dig (kB 54 key ++ b)) = D2 at *
  generalize hD1 : dig (kB 54 key ++ b) = D1 at *
  generalize kB 54 key = A at *
  generalize kB 92 key = Z at *
  have hta : List.take 64 A = A := List.take_of_length_le (by omega)
  have htz : List.take 64 Z = Z := List.take_of_length_le (by omega)
  have htd : List.take 32 (List.drop 0 D1) = D1 := by rw [List.drop_zero]; exact List.take_of_length_le (by omega)
  refine FnR.of_walk (m := 16) (n0 := 0) tt_ok Tryd.func21 rfl rfl (by simp) (by simp [nmH]) ?_
  rw [show Tryd.f21.results.toList = [.cell 4 24] from rfl]
  refine W.seqK fun K hK => W.regionK tt_ok ?_
  simp only [exOps_nil, exOps_cons, exOp_eq, nx_eq, cur_eq, stepQ, parT, putT, erA, inB, opt, ret, onQ, ap, up, er, true_and, Nat.reduceEqDiff, Nat.reduceLT, Nat.zero_add, if_false, reduceCtorEq, tt_24]
  refine hK _ ?_
  clear hK K
  refine W.seqK fun K hK => W.regionK tt_ok ?_
  simp only [exOps_cons, exOp_eq, exCall_eq, nx_eq, cur_eq, evL, stepQ, ev, ofV, lk, putT, erA, inB, opt, ret, onQ, ap, true_and, Nat.reduceEqDiff, Nat.reduceLT, Nat.reduceAdd, if_true, if_false, reduceCtorEq, Option.bind_some, Option.map_some]
  refine CallK.with [] [(32, .vec 5 (.ints .u8 A))] _ _ f1 call34' (by simp only [AV.nmIn, bnd, req, ret, onQ, AV.isTup, isTupL, true_and, and_self, Bool.false_eq_true, List.append_nil, vw.vwL, vw, AV.free, Bool.or_self]; all_goals (and_intros <;> first | exact AV.subL_refl _ | omega | (simp [AV.sub, entsFree, Ent.free, Row.free]; done) | rfl | (simp [AV.subL_refl]; done))) (by simp [leL]) (by intro n hn; first | (left; revert hn; simp [Nm, lk]; done) | (right; revert hn; simp only [Nm, lk]; split <;> simp <;> omega) | (by_cases h1 : Nm [] n; exact .inl h1; right; revert hn h1; simp only [Nm, lk]; split <;> (try split) <;> (try split) <;> (try split) <;> (try simp) <;> (try omega))) (by simp [entsIn]) ?_
  simp only [callDel, exOps_cons, exOp_eq, exCall_eq, nx_eq, cur_eq, evL, stepQ, ev, lk, putT, erA, inB, opt, bnd, req, ret, onQ, ap, up, er, bltQ, bltV, appQ, appV, srcQ, rowOf, Row.len, Row.sz, Row.take, Row.app, and_true, true_and, and_self, or_false, Nat.reduceEqDiff, Nat.reduceLT, Nat.reduceAdd, if_true, if_false, reduceCtorEq, Option.bind_some, Option.map_some, List.nil_append, tt_5, tt_22, List.map_cons, List.map_nil, List.reverse_cons, List.reverse_nil, hta]
  have v1 : List.take (64 + b.length) (List.drop 0 (A ++ b)) = A ++ b := by rw [List.drop_zero]; exact List.take_of_length_le (by rw [List.length_append]; omega)
  have c1' : FnR Tryd.prog G 17 [.lstI .u8 (List.take (64 + b.length) (List.drop 0 (A ++ b)))] [] (.agg [.ints .u8 32 D1]) [] := by rw [v1]; exact c1
  have v2 : List.take (64 + 32) (List.drop 0 (Z ++ D1)) = Z ++ D1 := by rw [List.drop_zero]; exact List.take_of_length_le (by rw [List.length_append]; omega)
  have c2' : FnR Tryd.prog G 17 [.lstI .u8 (List.take (64 + 32) (List.drop 0 (Z ++ D1)))] [] (.agg [.ints .u8 32 D2]) [] := by rw [v2]; exact c2
  have hl1 : (A ++ b).length = 64 + b.length := by rw [List.length_append]; omega
  have hl2 : (Z ++ D1).length = 96 := by rw [List.length_append]; omega
  refine ⟨by omega, ?_⟩
  refine CallK.pure _ _ c1' call17' (by simp only [Bool.or_false, lk, opt, bnd, req, ret, onQ, AV.isTup, isTupL, Ent.row, and_true, true_and, and_self, Nat.zero_add, if_true, if_false, reduceCtorEq, forall_const, List.append_nil, vw.vwL, vw, viewR, AV.free, AV.freeL, Ent.row, Bool.or_self]; all_goals (and_intros <;> first | exact AV.subL_refl _ | omega | (simp [AV.sub]; done) | rfl | (simp [AV.subL_refl]; done) | (simp; exact AV.subL_refl _))) ?_
  simp only [exOps_nil, exOps_cons, exOp_eq, nx_eq, cur_eq, stepQ, ev, lk, putT, erA, inB, opt, bnd, req, ret, onQ, ap, up, er, AV.isAgg, Kd.agg, comps, szL, csize, takeI, takeC, dropC, stE, stC, stS, true_and, and_self, Nat.reduceEqDiff, Nat.reduceLT, Nat.reduceLeDiff, Nat.reduceAdd, Nat.reduceSub, Nat.sub_self, Nat.le_refl, Nat.add_zero, Nat.zero_add, if_true, if_false, reduceCtorEq, Option.bind_some, Option.map_some, List.append_nil, List.nil_append, tt_24, Sx.stP]
  repeat (refine ⟨by omega, ?_⟩)
  refine hK _ ?_
  clear hK K
  refine W.seqK fun K hK => W.drawK [⟨0, false, [], false⟩, ⟨1, false, [0], false⟩, ⟨0, true, [], false⟩, ⟨2, false, [0, 1, 2], false⟩, ⟨0, false, [0, 1, 2, 3], false⟩, ⟨2, false, [0, 1, 2, 3, 4], false⟩] mix tt_ok (by kernel_rfl) ?_
  simp only [exOp_eq, exCall_eq, exD_cons, nxD_eq, cur_eq, flI, ownB, evL, stepQ, ev, ofV, lk, putT, erA, inB, opt, ret, onQ, ap, true_and, Nat.reduceEqDiff, Nat.reduceLT, Nat.reduceAdd, if_true, if_false, reduceCtorEq, Option.bind_some, Option.map_some]
  refine CallK.with [] [(144, .vec 5 (.ints .u8 Z))] _ _ f2 call34' (by simp only [AV.nmIn, bnd, req, ret, onQ, AV.isTup, isTupL, true_and, and_self, Bool.false_eq_true, List.append_nil, vw.vwL, vw, AV.free, Bool.or_self]; all_goals (and_intros <;> first | exact AV.subL_refl _ | omega | (simp [AV.sub, entsFree, Ent.free, Row.free]; done) | rfl | (simp [AV.subL_refl]; done))) (by simp [leL]) (by intro n hn; first | (left; revert hn; simp [Nm, lk]; done) | (right; revert hn; simp only [Nm, lk]; split <;> simp <;> omega) | (by_cases h1 : Nm [] n; exact .inl h1; right; revert hn h1; simp only [Nm, lk]; split <;> (try split) <;> (try split) <;> (try split) <;> (try simp) <;> (try omega))) (by simp [entsIn]) ?_
  simp only [callDel, decide_true, decide_false, Bool.or_false, List.contains_nil, exOp_eq, exCall_eq, exD_cons, nxD_eq, cur_eq, flI, flE, ownB, ownL, evL, stepQ, ev, lk, putT, erA, inB, opt, bnd, req, ret, onQ, ap, up, er, comps, szL, csize, bltQ, bltV, slF, appR, bd, bds, appQ, appV, srcQ, Row.len, Row.sz, Row.take, Row.drop, Row.app, Ent.row, and_true, true_and, and_self, or_false, Nat.reduceEqDiff, Nat.reduceLT, Nat.reduceLeDiff, Nat.reduceAdd, Nat.reduceSub, Nat.reduceMul, Nat.reduceDiv, Nat.le_refl, Nat.add_zero, Nat.zero_add, if_true, if_false, Bool.false_eq_true, reduceCtorEq, Option.bind_some, Option.map_some, List.nil_append, tt_5, tt_22, tt_24, List.map_cons, List.map_nil, List.reverse_cons, List.reverse_nil, htz, htd, hdl]
  refine ⟨by omega, ?_⟩
  refine CallK.pure _ _ c2' call17' (by simp only [Bool.or_false, lk, opt, bnd, req, ret, onQ, AV.isTup, isTupL, Ent.row, and_true, true_and, and_self, Nat.reduceEqDiff, Nat.reduceAdd, Nat.zero_add, if_true, if_false, reduceCtorEq, forall_const, List.append_nil, vw.vwL, vw, viewR, AV.free, AV.freeL, Ent.row, Bool.or_self]; all_goals (and_intros <;> first | exact AV.subL_refl _ | omega | (simp [AV.sub]; done) | rfl | (simp [AV.subL_refl]; done) | (simp; exact AV.subL_refl _))) ?_
  simp only [exOp_eq, exD_nil, exD_cons, nxD_eq, cur_eq, flI, ownB, stepQ, ev, lk, putT, erA, inB, opt, bnd, req, ret, onQ, ap, up, er, AV.isAgg, Kd.agg, comps, szL, csize, takeI, takeC, dropC, stE, stC, stS, true_and, and_self, Nat.reduceEqDiff, Nat.reduceLT, Nat.reduceLeDiff, Nat.reduceAdd, Nat.reduceSub, Nat.sub_self, Nat.le_refl, Nat.add_zero, Nat.zero_add, if_true, if_false, reduceCtorEq, Option.bind_some, Option.map_some, List.append_nil, List.nil_append, tt_24, Sx.stP]
  repeat (refine ⟨by omega, ?_⟩)
  refine hK _ ?_
  clear hK K
  refine W.ret ?_
  simp only [fin_ret, finB, resQ, resV, leL, AV.nmIn, AV.nmInL, entsIn, lk, opt, bnd, req, ret, onQ, AV.isTup, ldP, ldE, ldC, ldS, Kd.agg, comps, csize, takeI, takeC, dropC, and_self, Nat.reduceEqDiff, Nat.reduceLT, Nat.reduceLeDiff, Nat.reduceSub, Nat.sub_self, Nat.le_refl, Nat.add_zero, if_true, if_false, reduceCtorEq, Option.bind_some, Option.map_some, tt_24]
theorem call21 : Callable Tryd.prog 21 := ⟨_, Tryd.func21, by kernel_rfl, by kernel_rfl⟩
end Go.Proofs.YtageadccfdbmjaaDoor
