/- The statement MacLong: the walk. -/
import Derived.Test.YtageadccfdbmjaaDoorShR
-- TT 3 4 5 9 22 24 26 27 28 30 34 42 47 79
-- TOUCH 32 1
-- KIND 12 9 13 8
set_option linter.unusedVariables false
set_option linter.unusedSimpArgs false
namespace Go.Proofs.YtageadccfdbmjaaDoor
open Sx
set_option maxRecDepth 100000
set_option maxHeartbeats 4000000
theorem eT_piece (key info : List Int) (j : Nat) : ∀ J, j < J → ((eT key info J).drop (32 * j)).take 32 = eL key info (j + 1)
  | 0, h => absurd h (by omega)
  | J + 1, h => by
    rw [eT]
    have hl := eT_len key info J
    by_cases hj : j < J
    · rw [List.drop_append_of_le_length (by omega), List.take_append_of_le_length (by rw [List.length_drop]; omega)]
      exact eT_piece key info j J hj
    · obtain rfl : j = J := by omega
      rw [List.drop_append, List.drop_eq_nil_of_le (by omega), hl, Nat.sub_self, List.drop_zero, List.nil_append]
      exact List.take_of_length_le (by rw [eL_len]; omega)
theorem long4_fn (key : List Int) (y : Int) (hk : key.length = 32) (hy : 0 ≤ y ∧ y < 256) : FnR Tryd.prog G 12 [.agg [.ints .u8 32 key], .int .u8 y] [] (.bool true) [] := by
  obtain ⟨i, hi⟩ : ∃ i : Nat, (i : Int) = 1 + y % 254 := ⟨(1 + y % 254).toNat, by omega⟩
  have w0 : IntKind.i64.wrap y = y := by rw [IntKind.wrap_i64]; omega
  have w1 : IntKind.i64.wrap (1 + y.tmod 254) = i := by rw [Int.tmod_eq_emod_of_nonneg hy.1, IntKind.wrap_i64]; omega
  have w2 : IntKind.i64.wrap (32 * (i : Int)) = ((32 * i : Nat) : Int) := by rw [IntKind.wrap_i64]; omega
  have w3 : IntKind.i64.wrap (((32 * i : Nat) : Int) - 32) = ((32 * (i - 1) : Nat) : Int) := by rw [IntKind.wrap_i64]; omega
  have w4 : IntKind.i64.wrap ((i : Int) + 1) = ((i + 1 : Nat) : Int) := by rw [IntKind.wrap_i64]; omega
  have w5 : IntKind.i64.wrap (((32 * i : Nat) : Int) + 32) = ((32 * i + 32 : Nat) : Int) := by rw [IntKind.wrap_i64]; omega
  have c1 := expand_fn key [] 8160 hk (by simp) (by omega)
  have c2 := expand_bad key [] 8161 hk (by omega)
  have c3 := expand_bad key [] (-1) hk (by omega)
  have hX : expn key [] 8160 = eT key [] 255 := by rw [expn]; exact List.take_of_length_le (by rw [eT_len]; omega)
  have hXl := expn_len key [] 8160
  have p1 := eT_piece key [] (i - 1) 255 (by omega)
  have p2 := eT_piece key [] i 255 (by omega)
  have hL := eL_len key [] (i - 1)
  have hL2 := eL_len key [] i
  rw [show i - 1 + 1 = i by omega] at p1 hL
  have c4 := macSum_fn key (eL key [] i ++ [IntKind.u8.wrap ((i + 1 : Nat) : Int)]) (by omega) (by simp; omega)
  have hLe : eL key [] (i + 1) = hmac key (eL key [] i ++ [IntKind.u8.wrap ((i + 1 : Nat) : Int)]) := rfl
  rw [← hLe] at c4
  rw [← hX] at p1 p2
  generalize eL key [] (i + 1) = L2 at *
  generalize eL key [] i = L1 at *
  generalize expn key [] 8160 = X at *
  clear hLe hX
  have hkd : List.take 32 (List.drop 0 key) = key := by rw [List.drop_zero]; exact List.take_of_length_le (by omega)
  have p3 : List.drop (32 * (i - 1)) (List.take (32 * i) X) = L1 := by rw [List.drop_take, show 32 * i - 32 * (i - 1) = 32 by omega]; exact p1
  have p4 : List.drop (32 * i) (List.take (32 * i + 32) X) = L2 := by rw [List.drop_take, show 32 * i + 32 - 32 * i = 32 by omega]; exact p2
  have ht1 : List.take 1 (List.drop 0 [IntKind.u8.wrap ((i + 1 : Nat) : Int)]) = [IntKind.u8.wrap ((i + 1 : Nat) : Int)] := rfl
  have hLt : List.take 32 L1 = L1 := List.take_of_length_le (by omega)
  have c4 : FnR Tryd.prog G 22 [.lstI .u8 (List.take 32 (List.drop 0 key)), .lstI .u8 (List.take 33 (List.drop 0 (L1 ++ [IntKind.u8.wrap ((i + 1 : Nat) : Int)])))] [] (.agg [.ints .u8 32 L2]) [] := by
    rw [hkd, List.drop_zero, List.take_of_length_le (by simp; omega)]; exact c4
  have h33 : 33 ≤ (L1 ++ [IntKind.u8.wrap ((i + 1 : Nat) : Int)]).length := by simp; omega
  have hL2t : List.take 32 L2 = L2 := List.take_of_length_le (by omega)
  have hX' : ((X.length : Nat) : Int) = 8160 := by omega
  refine FnR.of_walk (m := 75) (n0 := 0) tt_ok Tryd.func12 rfl rfl (by simp) (by simp [nmH]) ?_
  rw [show Tryd.f12.results.toList = [.tmp 4] from rfl]
  refine W.seqK fun K hK => W.regionK tt_ok ?_
  simp only [exOps_nil, exOps_cons, exOp_eq, nx_eq, cur_eq, stepQ, ev, ofV, lk, parT, putT, erA, inB, opt, req, ret, onQ, ap, up, er, AV.isTup, true_and, and_self, Nat.reduceEqDiff, Nat.reduceLT, Nat.reduceAdd, Nat.zero_add, if_true, if_false, reduceCtorEq]
  refine hK _ ?_
  clear hK K
  refine W.seqK fun Kz hKz => ?_
  refine W.seqK fun K hK => W.regionK tt_ok ?_
  simp only [exOps_cons, exOp_eq, exCall_eq, evL, ev, inB, true_and, Nat.reduceLT]
  refine CallK.pure _ _ alive4_fn call20 (by simp only [ret, onQ, isTupL, true_and, Bool.false_eq_true, List.append_nil, vw.vwL, AV.free]; all_goals (and_intros <;> first | exact AV.subL_refl _ | omega | (simp []; done) | rfl | (simp [AV.subL_refl]; done) | (simp; exact AV.subL_refl _) | assumption)) ?_
  simp only [Bool.not_true, exOps_nil, exOps_cons, exOp_eq, nx_eq, cur_eq, stepQ, ev, lk, putT, erA, inB, opt, bnd, req, ret, onQ, ap, unF, true_and, and_self, Nat.reduceEqDiff, Nat.reduceLT, Nat.reduceAdd, if_true, if_false, reduceCtorEq]
  refine hK _ ?_
  clear hK K
  refine W.cond (b := false) (by simp only [ev, lk, Nat.reduceEqDiff, if_true, if_false, reduceCtorEq]) (fun h => absurd h (by simp)) (fun _ => W.skip ?_)
  simp only [thn_normal]
  refine hKz _ ?_
  refine W.seqK fun K hK => W.regionK tt_ok ?_
  simp only [exOps_cons, exOp_eq, exCall_eq, nx_eq, cur_eq, evL, stepQ, ev, ofV, lk, putT, erA, inB, opt, bnd, req, ret, onQ, ap, ldP, ldE, ldC, ldS, Kd.agg, comps, csize, takeI, takeC, dropC, true_and, and_self, Nat.reduceEqDiff, Nat.reduceLT, Nat.reduceLeDiff, Nat.reduceAdd, Nat.reduceSub, Nat.sub_self, Nat.le_refl, Nat.add_zero, if_true, if_false, reduceCtorEq, Option.bind_some, Option.map_some, tt_24]
  refine CallK.pure _ _ c1 call24 (by simp only [AV.nmIn, bnd, req, ret, onQ, AV.isTup, isTupL, true_and, and_self, Bool.false_eq_true, List.append_nil, vw.vwL, vw, AV.free, AV.freeL, Bool.or_self]; all_goals (and_intros <;> first | exact AV.subL_refl _ | omega | (simp [AV.sub]; done) | rfl | (simp [AV.subL_refl]; done) | (simp; exact AV.subL_refl _) | assumption)) ?_
  simp only [exOps_nil, exOps_cons, exOp_eq, nx_eq, cur_eq, stepQ, ev, lk, putT, erA, inB, opt, ret, onQ, ap, true_and, Nat.reduceEqDiff, Nat.reduceLT, Nat.reduceAdd, if_true, if_false, reduceCtorEq, List.getElem?_cons_zero, List.getElem?_cons_succ]
  repeat (refine ⟨by omega, ?_⟩)
  refine hK _ ?_
  clear hK K
  refine W.seqK fun K hK => W.regionK tt_ok ?_
  simp only [exOps_cons, exOp_eq, exCall_eq, nx_eq, cur_eq, evL, stepQ, ev, ofV, lk, putT, erA, inB, opt, bnd, req, ret, onQ, ap, ldP, ldE, ldC, ldS, Kd.agg, comps, csize, takeI, takeC, dropC, true_and, and_self, Nat.reduceEqDiff, Nat.reduceLT, Nat.reduceLeDiff, Nat.reduceAdd, Nat.reduceSub, Nat.sub_self, Nat.le_refl, Nat.add_zero, if_true, if_false, reduceCtorEq, Option.bind_some, Option.map_some, tt_24]
  refine CallK.pure _ _ c2 call24 (by simp only [AV.nmIn, bnd, req, ret, onQ, AV.isTup, isTupL, true_and, and_self, Bool.false_eq_true, List.append_nil, vw.vwL, vw, AV.free, AV.freeL, Bool.or_self]; all_goals (and_intros <;> first | exact AV.subL_refl _ | omega | (simp [AV.sub]; done) | rfl | (simp [AV.subL_refl]; done) | (simp; exact AV.subL_refl _) | assumption)) ?_
  simp only [exOps_nil, exOps_cons, exOp_eq, nx_eq, cur_eq, stepQ, ev, lk, putT, erA, inB, opt, ret, onQ, ap, true_and, Nat.reduceEqDiff, Nat.reduceLT, Nat.reduceAdd, if_true, if_false, reduceCtorEq, List.getElem?_cons_zero, List.getElem?_cons_succ]
  repeat (refine ⟨by omega, ?_⟩)
  refine hK _ ?_
  clear hK K
  refine W.seqK fun K hK => W.regionK tt_ok ?_
  simp only [exOps_cons, exOp_eq, exCall_eq, nx_eq, cur_eq, evL, stepQ, ev, ofV, lk, putT, erA, inB, opt, bnd, req, ret, onQ, ap, ldP, ldE, ldC, ldS, Kd.agg, comps, csize, takeI, takeC, dropC, true_and, and_self, Nat.reduceEqDiff, Nat.reduceLT, Nat.reduceLeDiff, Nat.reduceAdd, Nat.reduceSub, Nat.sub_self, Nat.le_refl, Nat.add_zero, if_true, if_false, reduceCtorEq, Option.bind_some, Option.map_some, tt_24]
  refine CallK.pure _ _ c3 call24 (by simp only [AV.nmIn, bnd, req, ret, onQ, AV.isTup, isTupL, true_and, and_self, Bool.false_eq_true, List.append_nil, vw.vwL, vw, AV.free, AV.freeL, Bool.or_self]; all_goals (and_intros <;> first | exact AV.subL_refl _ | omega | (simp [AV.sub]; done) | rfl | (simp [AV.subL_refl]; done) | (simp; exact AV.subL_refl _) | assumption)) ?_
  simp only [exOps_nil, exOps_cons, exOp_eq, nx_eq, cur_eq, stepQ, ev, lk, putT, erA, inB, opt, ret, onQ, ap, true_and, Nat.reduceEqDiff, Nat.reduceLT, Nat.reduceAdd, if_true, if_false, reduceCtorEq, List.getElem?_cons_zero, List.getElem?_cons_succ]
  repeat (refine ⟨by omega, ?_⟩)
  refine hK _ ?_
  clear hK K
  refine W.seqK fun Ky hKy => ?_
  refine W.seqK fun K hK => W.regionK tt_ok ?_
  simp only [↓gFF, ↓nFF, exOps_nil, exOps_cons, exOp_eq, exCall_eq, nx_eq, cur_eq, evL, stepQ, ev, ofV, lk, putT, erA, inB, opt, bnd, req, ret, onQ, ap, binG, binF, intF, pickF, bltQ, bltV, lenF, and_true, true_and, and_self, or_false, Nat.reduceEqDiff, Nat.reduceLT, Nat.reduceAdd, if_true, if_false, reduceCtorEq, List.getElem?_cons_zero, List.getElem?_cons_succ, Option.bind_some, Option.map_some, tt_22, hX', bne_self_eq_false]
  refine hK _ ?_
  clear hK K
  refine W.cond (b := false) (by simp only [ev, lk, Nat.reduceEqDiff, if_true, if_false, reduceCtorEq]) (fun h => absurd h (by simp)) (fun _ => W.skip ?_)
  simp only [thn_normal]
  refine hKy _ ?_
  refine W.seqK fun K hK => W.regionK tt_ok ?_
  simp only [exOps_nil, exOps_cons, exOp_eq, nx_eq, cur_eq, stepQ, ev, ofV, lk, putT, erA, inB, opt, bnd, req, ret, onQ, ap, binG, binF, intF, cvQ, and_true, true_and, and_self, Nat.reduceEqDiff, Nat.reduceLT, Nat.reduceAdd, if_true, if_false, reduceCtorEq, ne_eq, tt_3, tt_5, w0, w1]
  repeat (refine ⟨by omega, ?_⟩)
  refine hK _ ?_
  clear hK K
  refine W.weak ⟨[(2, .ptr 0 0 0 1), (5, .lstI .u8 X), (11, .int .i64 (i : Nat))], [(0, .obj 24 (.agg [.ints .u8 32 key]))], 1024, 75⟩ (by simp [wk, leL, lk, nmT, nmE, nmH, AV.nmIn, AV.nmInL, Ent.nmIn]) ?_
  refine W.seqK fun K hK => W.drawK [⟨0, true, []⟩, ⟨0, false, []⟩, ⟨0, false, []⟩, ⟨0, false, [2]⟩, ⟨0, false, [2, 3]⟩, ⟨0, false, []⟩, ⟨0, false, [5]⟩, ⟨0, true, [1, 2, 3, 4, 5, 6]⟩, ⟨1, true, [1, 2, 3, 4, 5, 6, 7]⟩, ⟨0, false, []⟩, ⟨0, false, [9]⟩, ⟨0, true, [9, 10]⟩, ⟨1, true, [9, 10, 11]⟩, ⟨8, true, [1, 2, 3, 4, 5, 6, 7, 8, 9, 10, 11, 12]⟩, ⟨0, true, [0, 1, 2, 3, 4, 5, 6, 7, 8, 9, 10, 11, 12, 13]⟩, ⟨1, true, []⟩, ⟨2, false, [0, 1, 2, 3, 4, 5, 6, 7, 8, 9, 10, 11, 12, 13, 14, 15]⟩] mix tt_ok (by kernel_rfl) ?_
  simp only [decide_true, decide_false, Bool.or_true, Bool.or_false, List.contains_cons, List.contains_nil, Nat.reduceBEq, exOp_eq, exCall_eq, exD_cons, nxD_eq, cur_eq, curV_eq, flI, flE, ownB, ownL, ownS, evL, evP, stepQ, ev, ofV, lk, putT, erA, inB, opt, bnd, req, ret, onQ, ap, up, er, AV.isTup, AV.isAgg, binG, binF, intF, intsOf, Kd.agg, comps, szL, csize, takeI, takeC, dropC, stC, stS, bltQ, bltV, slF, bd, bds, cvQ, appQ, appV, srcQ, rowOf, Row.len, Row.sz, Row.take, Row.drop, Row.app, Ent.row, Row.lst, bldA, bslQ, zeroCs, cellsRow, and_true, true_and, and_self, and_false, or_false, Nat.reduceEqDiff, Nat.reduceLT, Nat.reduceLeDiff, Nat.reduceAdd, Nat.reduceSub, Nat.reduceMul, Nat.reduceDiv, Nat.sub_self, Int.toNat_natCast, Nat.le_refl, Nat.add_zero, Nat.zero_add, if_true, if_false, Bool.false_eq_true, reduceCtorEq, ne_eq, not_false_eq_true, Option.bind_some, Option.map_some, List.append_nil, List.nil_append, List.cons_append, tt_3, tt_5, tt_22, tt_24, w2, w3, w4, p3, hL, hLt, ht1, lit1, beq_self_eq_true, List.set_cons_zero, List.length_cons, List.length_nil]
  repeat (refine ⟨by omega, ?_⟩)
  trace_state
  refine CallK.pure _ _ c4 call22 (by simp only [Bool.or_false, lk, opt, bnd, req, ret, onQ, AV.isTup, isTupL, Ent.row, and_true, true_and, and_self, Nat.reduceEqDiff, Nat.zero_add, if_true, if_false, reduceCtorEq, forall_const, List.append_nil, vw.vwL, vw, viewR, AV.free, AV.freeL, Ent.row, Bool.or_self]; all_goals (and_intros <;> first | exact AV.subL_refl _ | omega | (simp [AV.sub]; done) | rfl | (simp [AV.subL_refl]; done) | (simp; exact AV.subL_refl _) | assumption)) ?_
  simp only [decide_true, decide_false, Bool.or_false, List.contains_nil, exOp_eq, exD_nil, exD_cons, nxD_eq, cur_eq, flI, flE, ownB, ownL, stepQ, ev, lk, putT, erA, inB, opt, bnd, req, ret, onQ, ap, up, er, AV.isAgg, Kd.agg, comps, szL, csize, takeI, takeC, dropC, stP, stE, stC, stS, true_and, and_self, Nat.reduceEqDiff, Nat.reduceLT, Nat.reduceLeDiff, Nat.reduceAdd, Nat.reduceSub, Nat.reduceDiv, Nat.sub_self, Nat.le_refl, Nat.add_zero, Nat.zero_add, if_true, if_false, Bool.false_eq_true, reduceCtorEq, Option.bind_some, Option.map_some, List.append_nil, List.nil_append, tt_24]
  repeat (refine ⟨by omega, ?_⟩)
  refine hK _ ?_
  clear hK K
  refine W.seqK fun K hK => W.drawK [⟨0, false, []⟩, ⟨0, false, [0]⟩, ⟨0, false, []⟩, ⟨0, false, []⟩, ⟨0, false, [3]⟩, ⟨0, false, []⟩, ⟨0, false, [5]⟩, ⟨0, false, [5, 6]⟩, ⟨0, false, [2, 3, 4, 5, 6, 7]⟩, ⟨0, false, [2, 3, 4, 5, 6, 7, 8]⟩, ⟨0, false, [0, 1, 2, 3, 4, 5, 6, 7, 8, 9]⟩, ⟨0, false, [0, 1, 2, 3, 4, 5, 6, 7, 8, 9, 10]⟩] mix tt_ok (by kernel_rfl) ?_
  simp only [exOp_eq, exD_nil, exD_cons, nxD_eq, cur_eq, flI, ownB, stepQ, ev, ofV, lk, putT, erA, inB, opt, bnd, req, ret, onQ, ap, binG, binF, intF, strF, comps, szL, csize, slF, bd, bds, cvQ, s2bQ, srcQ, rowOf, Row.len, Row.sz, Row.take, Row.drop, Ent.row, and_true, true_and, and_self, Nat.reduceEqDiff, Nat.reduceLT, Nat.reduceLeDiff, Nat.reduceAdd, Nat.reduceSub, Nat.reduceMul, Int.toNat_natCast, Nat.add_zero, Nat.zero_add, if_true, if_false, reduceCtorEq, ne_eq, not_false_eq_true, forall_const, Option.bind_some, Option.map_some, tt_5, tt_9, tt_22, tt_24, w2, w5, p4, hL2t, List.drop_zero, beq_self_eq_true]
  refine ⟨by omega, by omega, ?_⟩
  refine hK _ ?_
  clear hK K
  refine W.ret ?_
  simp only [fin_ret, finB, resQ, resV, leL, AV.nmIn, entsIn, lk, opt, bnd, req, ret, onQ, AV.isTup, and_self, Nat.reduceEqDiff, if_true, if_false]
end Go.Proofs.YtageadccfdbmjaaDoor
