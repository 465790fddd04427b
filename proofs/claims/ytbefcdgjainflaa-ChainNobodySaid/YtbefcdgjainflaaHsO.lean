/- HMAC of a key and bytes. -/
import Derived.Test.YtbefcdgjainflaaHsN
import Derived.Test.YtbefcdgjainflaaSxW
-- TT 3 4 5 39 36 66 93 94 96 103
-- TOUCH 51 1
set_option linter.unusedVariables false
set_option linter.unusedSectionVars false
set_option linter.unusedSimpArgs false
namespace Go.Proofs.Ytbefcdgjainflaa
open Sx
variable [Inhabited Tabs]
set_option maxRecDepth 100000
set_option maxHeartbeats 4000000
theorem call50 : Callable Try.prog 50 := ⟨_, Try.func50, by kernel_rfl, by kernel_rfl⟩
/-- Write, its result told by value. -/
theorem writeV_fn (bs c : List Int) (hb : bs.length ≤ 90000) (hc : c.length ≤ 90000) :
    FnR Try.prog G 51 [digV bs, .lstI .u8 c] [] (digV (bs ++ c)) [] := by
  by_cases h0 : R bs ++ c = []
  · have h := writeB_no bs c hb h0
    have hR : R (bs ++ c) = [] := by
      rw [← R_app, h0]; rfl
    refine h.subR ?_
    rw [digV, hR]
    simp [AV.sub, AV.subL]
  · refine (writeB_at 0 bs c hb hc h0).val (F := true) rfl ?_
    rw [digV, ← R_app]
    generalize R bs ++ c = l
    generalize S (bs ++ c) = s
    refine ⟨_, rfl, ?_⟩
    simp [AV.nmIn]
    omega
/-- HMAC. -/
def hmac (key b : List Int) : List Int := dig (kB 92 key ++ dig (kB 54 key ++ b))
theorem hmac_len (key b : List Int) : (hmac key b).length = 32 := dig_len _
theorem keyedV (key : List Int) (y : Int) (hk : key.length ≤ 90000) : FnR Try.prog G 50 [.lstI .u8 key, .int .u8 y] [] (digV (kB y key)) [] := by
  have h := keyed_fn key y hk
  rw [digV, R_64 (kB_len y key), kB_len]
  exact h
theorem macSum_fn (key b : List Int) (hk : key.length ≤ 90000) (hb : b.length ≤ 80000) : FnR Try.prog G 47 [.lstI .u8 key, .lstI .u8 b] [] (.agg [.ints .u8 32 (hmac key b)]) [] := by
  have c1 := keyedV key 54 hk
  have c2 := keyedV key 92 hk
  have l1 := kB_len 54 key
  have l2 := kB_len 92 key
  have c3 := writeV_fn (kB 54 key) b (by omega) (by omega)
  have c4 := sumB_fn (kB 54 key ++ b)
  have l3 := dig_len (kB 54 key ++ b)
  have hh : hmac key b = dig (kB 92 key ++ dig (kB 54 key ++ b)) := rfl
  rw [hh]
  clear hh
  generalize kB 54 key = A at *
  generalize kB 92 key = C at *
  generalize dig (A ++ b) = D at *
  have hR := R_64 l2
  have c5 := writeB_at 176 C D (by omega) (by omega) (by rw [hR]; intro h; rw [List.nil_append] at h; rw [h] at l3; simp at l3)
  have c6 := sumB_fn (C ++ D)
  have l4 := dig_len (C ++ D)
  have hdt : List.take 32 (List.drop 0 D) = D := by rw [List.drop_zero]; exact List.take_of_length_le (by omega)
  rw [← R_app, hR, List.nil_append] at c6
  rw [hR, List.nil_append] at c5
  rw [digV, hR] at c2
  rw [l2] at c2 c5
  rw [List.length_append, l2, l3] at c5 c6
  unfold digV at c1 c3
  generalize dig (C ++ D) = E at *
  generalize S (C ++ D) = S4 at *
  generalize S C = S2 at *
  generalize S (A ++ b) = S3 at *
  generalize R (A ++ b) = R3 at *
  generalize S A = S1 at *
  generalize R A = R1 at *
  have d5 : FnR Try.prog G 51 [.agg [.ints .u32 8 S2, .lstI .u8 [], .int .u64 64], .lstI .u8 (List.take 32 (List.drop 0 D))] [] (.agg [.ints .u32 8 S4, .sl 176 1 0 32, .int .u64 96]) [(176, .vec 5 (.ints .u8 D))] := by rw [hdt]; exact c5
  have d6 : FnR Try.prog G 52 [.agg [.ints .u32 8 S4, .lstI .u8 (List.take 32 (List.drop 0 D)), .int .u64 96]] [] (.agg [.ints .u8 32 E]) [] := c6
  have d2 : FnR Try.prog G 50 [.lstI .u8 key, .int .u8 92] [] (.agg [.ints .u32 8 S2, .lstI .u8 [], .int .u64 64]) [] := c2
  clear c5 c6 c2
  refine FnR.of_walk (m := 16) (n0 := 0) tt_ok Try.func47 rfl rfl (by simp) (by simp [nmH]) ?_
  rw [show Try.f47.results.toList = [.cell 4 36] from rfl]
  refine W.seqK fun K hK => W.regionK tt_ok ?_
  simp only [exOps_nil, exOps_cons, exOp_eq, nx_eq, cur_eq, stepQ, parT, putT, erA, inB, opt, ret, onQ, ap, up, er, true_and, Nat.reduceEqDiff, Nat.reduceLT, Nat.zero_add, if_false, reduceCtorEq, tt_36]
  refine hK _ ?_
  clear hK K
  refine W.seqK fun K hK => W.regionK tt_ok ?_
  simp only [exOps_cons, exOp_eq, exCall_eq, nx_eq, cur_eq, evL, stepQ, ev, ofV, lk, putT, erA, inB, opt, ret, onQ, ap, true_and, Nat.reduceEqDiff, Nat.reduceLT, Nat.reduceAdd, if_true, if_false, reduceCtorEq, Option.bind_some, Option.map_some]
  refine CallK.pure _ _ c1 call50 (by simp only [AV.nmIn, bnd, req, ret, onQ, AV.isTup, isTupL, true_and, and_self, Bool.false_eq_true, List.append_nil, vw.vwL, vw, AV.free, AV.freeL, Bool.or_self]; all_goals (and_intros <;> first | exact AV.subL_refl _ | omega | (simp [AV.sub]; done) | rfl | (simp [AV.subL_refl]; done) | (simp; exact AV.subL_refl _))) ?_
  simp only [exOps_cons, exOp_eq, exCall_eq, nx_eq, cur_eq, evL, stepQ, ev, lk, putT, erA, inB, opt, ret, onQ, ap, true_and, Nat.reduceEqDiff, Nat.reduceLT, Nat.reduceAdd, if_true, if_false, reduceCtorEq, Option.bind_some, Option.map_some]
  refine CallK.pure _ _ c3 call51 (by simp only [AV.nmIn, bnd, req, ret, onQ, AV.isTup, isTupL, true_and, and_self, Bool.false_eq_true, List.append_nil, vw.vwL, vw, AV.free, AV.freeL, Bool.or_self]; all_goals (and_intros <;> first | exact AV.subL_refl _ | omega | (simp [AV.sub]; done) | rfl | (simp [AV.subL_refl]; done) | (simp; exact AV.subL_refl _))) ?_
  simp only [exOps_cons, exOp_eq, exCall_eq, nx_eq, evL, ev, lk, putT, erA, inB, ap, true_and, Nat.reduceEqDiff, Nat.reduceLT, Nat.reduceAdd, if_true, if_false, reduceCtorEq, Option.bind_some, Option.map_some]
  refine CallK.pure _ _ c4 call52 (by simp only [AV.nmIn, bnd, req, ret, onQ, AV.isTup, isTupL, true_and, and_self, Bool.false_eq_true, List.append_nil, vw.vwL, vw, AV.free, AV.freeL, Bool.or_self]; all_goals (and_intros <;> first | exact AV.subL_refl _ | omega | (simp [AV.sub]; done) | rfl | (simp [AV.subL_refl]; done) | (simp; exact AV.subL_refl _))) ?_
  simp only [exOps_nil, exOps_cons, exOp_eq, nx_eq, cur_eq, stepQ, ev, lk, putT, erA, inB, opt, bnd, req, ret, onQ, ap, up, er, AV.isAgg, Kd.agg, comps, szL, csize, takeI, takeC, dropC, stP, stE, stC, stS, true_and, and_self, Nat.reduceEqDiff, Nat.reduceLT, Nat.reduceLeDiff, Nat.reduceAdd, Nat.reduceSub, Nat.sub_self, Nat.le_refl, Nat.add_zero, Nat.zero_add, if_true, if_false, reduceCtorEq, Option.bind_some, Option.map_some, List.append_nil, List.nil_append, tt_36]
  repeat (refine ⟨by omega, ?_⟩)
  refine hK _ ?_
  clear hK K
  refine W.seqK fun K hK => W.drawK [⟨0, false, [], false⟩, ⟨0, false, [0], false⟩, ⟨0, false, [], false⟩, ⟨1, false, [0, 1, 2], false⟩, ⟨0, false, [0, 1, 2, 3], false⟩, ⟨2, false, [0, 1, 2, 3, 4], false⟩] mix tt_ok (by kernel_rfl) ?_
  simp only [exOp_eq, exCall_eq, exD_cons, nxD_eq, cur_eq, flI, ownB, evL, stepQ, ev, ofV, lk, putT, erA, inB, opt, ret, onQ, ap, true_and, Nat.reduceEqDiff, Nat.reduceLT, Nat.reduceAdd, if_true, if_false, reduceCtorEq, Option.bind_some, Option.map_some]
  refine CallK.pure _ _ d2 call50 (by simp only [AV.nmIn, bnd, req, ret, onQ, AV.isTup, isTupL, true_and, and_self, Bool.false_eq_true, List.append_nil, vw.vwL, vw, AV.free, AV.freeL, Bool.or_self]; all_goals (and_intros <;> first | exact AV.subL_refl _ | omega | (simp [AV.sub]; done) | rfl | (simp [AV.subL_refl]; done) | (simp; exact AV.subL_refl _))) ?_
  simp only [exOp_eq, exCall_eq, exD_cons, nxD_eq, cur_eq, flI, ownB, evL, stepQ, ev, lk, putT, erA, inB, opt, bnd, req, ret, onQ, ap, comps, szL, csize, slF, bd, bds, true_and, and_self, Nat.reduceEqDiff, Nat.reduceLT, Nat.reduceLeDiff, Nat.reduceAdd, Nat.reduceSub, Nat.reduceMul, Nat.add_zero, if_true, if_false, reduceCtorEq, Option.bind_some, Option.map_some, tt_5, tt_36]
  refine CallK.with [] [(176, .vec 5 (.ints .u8 D))] _ _ d5 call51 (by simp only [Bool.or_true, Bool.or_false, AV.nmIn, lk, opt, bnd, req, ret, onQ, AV.isTup, isTupL, Ent.row, and_true, true_and, and_self, Nat.zero_add, if_true, if_false, reduceCtorEq, forall_const, List.append_nil, vw.vwL, vw, viewR, AV.free, AV.freeL, Ent.row, Bool.or_self]; all_goals (and_intros <;> first | exact AV.subL_refl _ | omega | (simp [AV.sub, entsFree, Ent.free, Row.free]; done) | rfl | (simp [AV.subL_refl]; done))) (by simp [leL]) (by intro n hn; first | (left; revert hn; simp [Nm, lk]; done) | (right; revert hn; simp only [Nm, lk]; split <;> simp <;> omega) | (by_cases h1 : Nm [] n; exact .inl h1; right; revert hn h1; simp only [Nm, lk]; split <;> (try split) <;> (try split) <;> (try split) <;> (try simp) <;> (try omega))) (by simp [entsIn]) ?_
  simp only [callDel, exOp_eq, exCall_eq, exD_cons, nxD_eq, flI, ownB, ownL, evL, ev, lk, putT, erA, inB, ap, up, er, true_and, and_self, Nat.reduceEqDiff, Nat.reduceLT, Nat.reduceAdd, Nat.le_refl, if_true, if_false, reduceCtorEq, Option.bind_some, Option.map_some, List.nil_append, List.map_cons, List.map_nil, List.reverse_cons, List.reverse_nil]
  refine CallK.pure _ _ d6 call52 (by simp only [Bool.or_true, Bool.or_false, AV.nmIn, lk, opt, bnd, req, ret, onQ, AV.isTup, isTupL, Ent.row, and_true, true_and, and_self, Nat.reduceEqDiff, Nat.zero_add, if_true, if_false, reduceCtorEq, forall_const, List.append_nil, vw.vwL, vw, viewR, AV.free, AV.freeL, Ent.row, Bool.or_self]; all_goals (and_intros <;> first | exact AV.subL_refl _ | omega | (simp [AV.sub]; done) | rfl | (simp [AV.subL_refl]; done) | (simp; exact AV.subL_refl _))) ?_
  simp only [exOp_eq, exD_nil, exD_cons, nxD_eq, cur_eq, flI, ownB, stepQ, ev, lk, putT, erA, inB, opt, bnd, req, ret, onQ, ap, up, er, AV.isAgg, Kd.agg, comps, szL, csize, takeI, takeC, dropC, stP, stE, stC, stS, true_and, and_self, Nat.reduceEqDiff, Nat.reduceLT, Nat.reduceLeDiff, Nat.reduceAdd, Nat.reduceSub, Nat.sub_self, Nat.le_refl, Nat.add_zero, Nat.zero_add, if_true, if_false, reduceCtorEq, Option.bind_some, Option.map_some, List.append_nil, List.nil_append, tt_36]
  repeat (refine ⟨by omega, ?_⟩)
  refine hK _ ?_
  clear hK K
  refine W.ret ?_
  simp only [fin_ret, finB, resQ, resV, leL, AV.nmIn, AV.nmInL, entsIn, lk, opt, bnd, req, ret, onQ, AV.isTup, ldP, ldE, ldC, ldS, Kd.agg, comps, csize, takeI, takeC, dropC, and_self, Nat.reduceEqDiff, Nat.reduceLT, Nat.reduceLeDiff, Nat.reduceSub, Nat.sub_self, Nat.le_refl, Nat.add_zero, if_true, if_false, reduceCtorEq, Option.bind_some, Option.map_some, tt_36]
end Go.Proofs.Ytbefcdgjainflaa
