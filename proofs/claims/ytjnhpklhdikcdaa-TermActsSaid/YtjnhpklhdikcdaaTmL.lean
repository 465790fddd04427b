/- Tables: Parts, All. -/
import Derived.Test.YtjnhpklhdikcdaaTmK
-- TT 3 4 5 9 24 28 35 47 51 53 63
set_option linter.unusedVariables false
set_option linter.unusedSimpArgs false
namespace Go.Proofs.Ytjnhpklhdikcdaa
open Sx
set_option maxRecDepth 100000
set_option maxHeartbeats 2000000
theorem parts_nil (n : ByteArray) : FnR Try.prog G 15 [.nilp, .str n] [] (.tup [.int .u8 0, .nils, .bool false]) [] := by
  refine FnR.of_walk (m := 34) (n0 := 0) tt_ok Try.func15 rfl rfl (by simp) (by simp [nmH]) ?_
  rw [show Try.f15.results.toList = [.tmp 4, .tmp 5, .tmp 6] from rfl]
  refine W.seqK fun K hK => W.regionK tt_ok ?_
  simp only [exOps_nil, exOps_cons, exOp_eq, nx_eq, cur_eq, stepQ, ev, ofV, parT, putT, erA, inB, opt, ret, onQ, ap, true_and, Nat.reduceEqDiff, Nat.reduceLT, Nat.reduceAdd, Nat.zero_add, if_false, reduceCtorEq]
  refine hK _ ?_
  clear hK K
  refine W.seqK fun Kx hKx => ?_
  refine W.seqK fun K hK => W.regionK tt_ok ?_
  simp only [exOps_cons, exOp_eq, exCall_eq, nx_eq, cur_eq, evL, stepQ, ev, lk, putT, erA, inB, opt, ret, onQ, ap, true_and, Nat.reduceEqDiff, Nat.reduceLT, Nat.reduceAdd, if_true, if_false, reduceCtorEq, Option.bind_some, Option.map_some]
  refine CallK.pure _ _ good_nil call29 (by simp only [AV.nmIn, bnd, req, ret, onQ, AV.isTup, isTupL, true_and, and_self, Bool.false_eq_true, List.append_nil, vw.vwL, vw, AV.free, Bool.or_self]; all_goals (and_intros <;> first | exact AV.subL_refl _ | omega | (simp [AV.sub]; done) | rfl | (simp [AV.subL_refl]; done) | (simp; exact AV.subL_refl _))) ?_
  simp only [Bool.not_false, exOps_nil, exOps_cons, exOp_eq, nx_eq, cur_eq, stepQ, ev, lk, putT, erA, inB, opt, bnd, req, ret, onQ, ap, unF, true_and, and_self, Nat.reduceEqDiff, Nat.reduceLT, Nat.reduceAdd, if_true, if_false, reduceCtorEq]
  refine hK _ ?_
  clear hK K
  refine W.cond (b := true) (by simp only [ev, lk, Nat.reduceEqDiff, if_true, if_false, reduceCtorEq]) (fun _ => ?_) (fun h => absurd h (by simp))
  refine W.seqK fun K hK => W.regionK tt_ok ?_
  simp only [exOps_nil, exOps_cons, exOp_eq, nx_eq, cur_eq, stepQ, ev, ofV, putT, erA, inB, opt, ret, onQ, ap, true_and, Nat.reduceEqDiff, Nat.reduceLT, Nat.reduceAdd, if_true, if_false, reduceCtorEq]
  refine hK _ ?_
  clear hK K
  refine W.ret ?_
  simp only [fin_ret, finB, resQ, resV, leL, AV.nmIn, AV.nmInL, entsIn, lk, opt, bnd, req, ret, onQ, AV.isTup, thn_ret, and_self, Nat.reduceEqDiff, if_true, if_false, reduceCtorEq]
  done
theorem parts_none (l : List ByteArray) (n : ByteArray) (hg : kvGet (tmL l) n = none) : FnR Try.prog G 15 [.ptr 0 0 0 1, .str n] (tabE l) (.tup [.int .u8 0, .nils, .bool false]) (tabE l) := by
  have c0 := good_own l
  cases l with
  | nil =>
    replace hg : kvGet [] n = none := rfl
    simp only [tabE] at *
    refine FnR.of_walk (m := 34) (n0 := 16) tt_ok Try.func15 rfl rfl (by simp) (by simp [nmH]) ?_
    rw [show Try.f15.results.toList = [.tmp 4, .tmp 5, .tmp 6] from rfl]
    refine W.seqK fun K hK => W.regionK tt_ok ?_
    simp only [exOps_nil, exOps_cons, exOp_eq, nx_eq, cur_eq, stepQ, ev, ofV, parT, putT, erA, inB, opt, ret, onQ, ap, true_and, Nat.reduceEqDiff, Nat.reduceLT, Nat.reduceAdd, Nat.zero_add, if_false, reduceCtorEq]
    refine hK _ ?_
    clear hK K
    refine W.seqK fun Kx hKx => ?_
    refine W.seqK fun K hK => W.regionK tt_ok ?_
    simp only [exOps_cons, exOp_eq, exCall_eq, nx_eq, cur_eq, evL, stepQ, ev, lk, putT, erA, inB, opt, ret, onQ, ap, true_and, Nat.reduceEqDiff, Nat.reduceLT, Nat.reduceAdd, if_true, if_false, reduceCtorEq, Option.bind_some, Option.map_some]
    refine CallK.with [(0, .obj 53 (.agg [.mp 1, .mp 2, .nils])), (1, .mset (.strs [])), (2, .mset (.strs []))] [(0, .obj 53 (.agg [.mp 1, .mp 2, .nils])), (1, .mset (.strs [])), (2, .mset (.strs []))] _ _ c0 call29 (by simp only [AV.nmIn, bnd, req, ret, onQ, AV.isTup, isTupL, and_true, true_and, and_self, Bool.false_eq_true, List.append_nil, vw.vwL, vw, AV.free, Bool.or_self]; all_goals (and_intros <;> first | exact AV.subL_refl _ | omega | (simp [AV.sub, entsFree, Ent.free]; done) | rfl | (simp [AV.subL_refl]; done))) (by simp [leL, lk]) (by intro n hn; first | (left; revert hn; simp [Nm, lk]; done) | (right; revert hn; simp only [Nm, lk]; split <;> simp <;> omega) | (by_cases h1 : Nm [(0, .obj 53 (.agg [.mp 1, .mp 2, .nils])), (1, .mset (.strs [])), (2, .mset (.strs []))] n; exact .inl h1; right; revert hn h1; simp only [Nm, lk]; split <;> (try split) <;> (try split) <;> (try split) <;> (try simp) <;> (try omega))) (by simp [entsIn, Ent.nmIn, AV.nmIn, AV.nmInL, Nm, lk]) ?_
    simp only [callDel, Bool.not_true, exOps_nil, exOps_cons, exOp_eq, nx_eq, cur_eq, stepQ, ev, lk, putT, erA, inB, opt, bnd, req, ret, onQ, ap, up, er, unF, true_and, and_self, Nat.reduceEqDiff, Nat.reduceLT, Nat.reduceAdd, if_true, if_false, reduceCtorEq, List.nil_append, List.cons_append, List.map_cons, List.map_nil, List.reverse_cons, List.reverse_nil]
    refine hK _ ?_
    clear hK K
    refine W.cond (b := false) (by simp only [ev, lk, Nat.reduceEqDiff, if_true, if_false, reduceCtorEq]) (fun h => absurd h (by simp)) (fun _ => W.skip ?_)
    simp only [thn_normal]
    refine hKx _ ?_
    refine W.seqK fun K hK => W.regionK tt_ok ?_
    simp only [exOps_nil, exOps_cons, exOp_eq, nx_eq, cur_eq, stepQ, ev, lk, putT, erA, inB, opt, bnd, req, ret, onQ, ap, AV.isTup, notNil, ldP, ldE, ldC, ldS, Kd.agg, comps, csize, takeI, takeC, dropC, fldF, lkoQ, kvOr, true_and, and_self, Nat.reduceEqDiff, Nat.reduceLT, Nat.reduceLeDiff, Nat.reduceAdd, Nat.reduceSub, Nat.sub_self, Nat.le_refl, Nat.zero_add, if_true, if_false, Bool.false_eq_true, reduceCtorEq, ne_eq, not_false_eq_true, List.getElem?_cons_zero, List.getElem?_cons_succ, Option.bind_some, Option.map_some, tt_9, tt_51, tt_53, hg, Option.isSome_none]
    refine hK _ ?_
    clear hK K
    refine W.seqK fun Ky hKy => ?_
    refine W.seqK fun K hK => W.regionK tt_ok ?_
    simp only [Bool.not_false, exOps_nil, exOps_cons, exOp_eq, nx_eq, cur_eq, stepQ, ev, lk, putT, erA, inB, opt, bnd, req, ret, onQ, ap, unF, true_and, and_self, Nat.reduceEqDiff, Nat.reduceLT, Nat.reduceAdd, if_true, if_false, reduceCtorEq]
    refine hK _ ?_
    clear hK K
    refine W.cond (b := true) (by simp only [ev, lk, Nat.reduceEqDiff, if_true, if_false, reduceCtorEq]) (fun _ => ?_) (fun h => absurd h (by simp))
    refine W.seqK fun K hK => W.regionK tt_ok ?_
    simp only [exOps_nil, exOps_cons, exOp_eq, nx_eq, cur_eq, stepQ, ev, ofV, putT, erA, inB, opt, ret, onQ, ap, true_and, Nat.reduceEqDiff, Nat.reduceLT, Nat.reduceAdd, if_true, if_false, reduceCtorEq]
    refine hK _ ?_
    clear hK K
    refine W.ret ?_
    simp only [fin_ret, finB, resQ, resV, leL, AV.nmIn, AV.nmInL, entsIn, lk, opt, bnd, req, ret, onQ, AV.isTup, thn_ret, and_true, true_and, and_self, Nat.reduceEqDiff, if_true, if_false, reduceCtorEq]
    simp [Nm, lk, Ent.nmIn, AV.nmIn, AV.nmInL]
  | cons s l =>
    simp only [tabE] at *
    generalize nmL (s :: l) = a1 at *
    generalize tmL (s :: l) = a2 at *
    generalize alL (s :: l) = a3 at *
    refine FnR.of_walk (m := 34) (n0 := 16) tt_ok Try.func15 rfl rfl (by simp) (by simp [nmH]) ?_
    rw [show Try.f15.results.toList = [.tmp 4, .tmp 5, .tmp 6] from rfl]
    refine W.seqK fun K hK => W.regionK tt_ok ?_
    simp only [exOps_nil, exOps_cons, exOp_eq, nx_eq, cur_eq, stepQ, ev, ofV, parT, putT, erA, inB, opt, ret, onQ, ap, true_and, Nat.reduceEqDiff, Nat.reduceLT, Nat.reduceAdd, Nat.zero_add, if_false, reduceCtorEq]
    refine hK _ ?_
    clear hK K
    refine W.seqK fun Kx hKx => ?_
    refine W.seqK fun K hK => W.regionK tt_ok ?_
    simp only [exOps_cons, exOp_eq, exCall_eq, nx_eq, cur_eq, evL, stepQ, ev, lk, putT, erA, inB, opt, ret, onQ, ap, true_and, Nat.reduceEqDiff, Nat.reduceLT, Nat.reduceAdd, if_true, if_false, reduceCtorEq, Option.bind_some, Option.map_some]
    refine CallK.with [(0, .obj 53 (.agg [.mp 1, .mp 2, .sl 3 1 0 (l.length + 1)])), (1, .mset (.strs a1)), (2, .mset (.strs a2)), (3, .vec 9 (.strs a3))] [(0, .obj 53 (.agg [.mp 1, .mp 2, .sl 3 1 0 (l.length + 1)])), (1, .mset (.strs a1)), (2, .mset (.strs a2)), (3, .vec 9 (.strs a3))] _ _ c0 call29 (by simp only [AV.nmIn, bnd, req, ret, onQ, AV.isTup, isTupL, and_true, true_and, and_self, Bool.false_eq_true, List.append_nil, vw.vwL, vw, AV.free, Bool.or_self]; all_goals (and_intros <;> first | exact AV.subL_refl _ | omega | (simp [AV.sub, entsFree, Ent.free, Row.free]; done) | rfl | (simp [AV.subL_refl]; done))) (by simp [leL, lk]) (by intro n hn; first | (left; revert hn; simp [Nm, lk]; done) | (right; revert hn; simp only [Nm, lk]; split <;> simp <;> omega) | (by_cases h1 : Nm [(0, .obj 53 (.agg [.mp 1, .mp 2, .sl 3 1 0 (l.length + 1)])), (1, .mset (.strs a1)), (2, .mset (.strs a2)), (3, .vec 9 (.strs a3))] n; exact .inl h1; right; revert hn h1; simp only [Nm, lk]; split <;> (try split) <;> (try split) <;> (try split) <;> (try simp) <;> (try omega))) (by simp [entsIn, Ent.nmIn, Row.nmIn, AV.nmIn, AV.nmInL, Nm, lk]) ?_
    simp only [callDel, Bool.not_true, exOps_nil, exOps_cons, exOp_eq, nx_eq, cur_eq, stepQ, ev, lk, putT, erA, inB, opt, bnd, req, ret, onQ, ap, up, er, unF, true_and, and_self, Nat.reduceEqDiff, Nat.reduceLT, Nat.reduceAdd, if_true, if_false, reduceCtorEq, List.nil_append, List.cons_append, List.map_cons, List.map_nil, List.reverse_cons, List.reverse_nil]
    refine hK _ ?_
    clear hK K
    refine W.cond (b := false) (by simp only [ev, lk, Nat.reduceEqDiff, if_true, if_false, reduceCtorEq]) (fun h => absurd h (by simp)) (fun _ => W.skip ?_)
    simp only [thn_normal]
    refine hKx _ ?_
    refine W.seqK fun K hK => W.regionK tt_ok ?_
    simp only [exOps_nil, exOps_cons, exOp_eq, nx_eq, cur_eq, stepQ, ev, lk, putT, erA, inB, opt, bnd, req, ret, onQ, ap, AV.isTup, notNil, ldP, ldE, ldC, ldS, Kd.agg, comps, csize, takeI, takeC, dropC, fldF, lkoQ, kvOr, true_and, and_self, Nat.reduceEqDiff, Nat.reduceLT, Nat.reduceLeDiff, Nat.reduceAdd, Nat.reduceSub, Nat.sub_self, Nat.le_refl, Nat.zero_add, if_true, if_false, Bool.false_eq_true, reduceCtorEq, ne_eq, not_false_eq_true, List.getElem?_cons_zero, List.getElem?_cons_succ, Option.bind_some, Option.map_some, tt_9, tt_51, tt_53, hg, Option.isSome_none]
    refine hK _ ?_
    clear hK K
    refine W.seqK fun Ky hKy => ?_
    refine W.seqK fun K hK => W.regionK tt_ok ?_
    simp only [Bool.not_false, exOps_nil, exOps_cons, exOp_eq, nx_eq, cur_eq, stepQ, ev, lk, putT, erA, inB, opt, bnd, req, ret, onQ, ap, unF, true_and, and_self, Nat.reduceEqDiff, Nat.reduceLT, Nat.reduceAdd, if_true, if_false, reduceCtorEq]
    refine hK _ ?_
    clear hK K
    refine W.cond (b := true) (by simp only [ev, lk, Nat.reduceEqDiff, if_true, if_false, reduceCtorEq]) (fun _ => ?_) (fun h => absurd h (by simp))
    refine W.seqK fun K hK => W.regionK tt_ok ?_
    simp only [exOps_nil, exOps_cons, exOp_eq, nx_eq, cur_eq, stepQ, ev, ofV, putT, erA, inB, opt, ret, onQ, ap, true_and, Nat.reduceEqDiff, Nat.reduceLT, Nat.reduceAdd, if_true, if_false, reduceCtorEq]
    refine hK _ ?_
    clear hK K
    refine W.ret ?_
    simp only [fin_ret, finB, resQ, resV, leL, AV.nmIn, AV.nmInL, entsIn, lk, opt, bnd, req, ret, onQ, AV.isTup, thn_ret, and_true, true_and, and_self, Nat.reduceEqDiff, if_true, if_false, reduceCtorEq]
    simp [Nm, lk, Ent.nmIn, Row.nmIn, AV.nmIn, AV.nmInL]
theorem parts_have (l : List ByteArray) (n : ByteArray) (kind : Nat) (hk : kind < 256) (p0 : ByteArray) (ps : List ByteArray) (hl : (p0 :: ps).length < 256) (hs : ∀ s ∈ p0 :: ps, s.size ≤ 4000) (hz : (encS kind (p0 :: ps)).size ≤ 30000) (hg : kvGet (tmL l) n = some (.str (encS kind (p0 :: ps)))) :
    FnR Try.prog G 15 [.ptr 0 0 0 1, .str n] (tabE l) (.tup [.int .u8 (kind : Nat), .lstS (p0 :: ps), .bool true]) (tabE l) := by
  have c0 := good_own l
  have c1 := split_fn kind hk (p0 :: ps) hl hs hz
  simp only [lsV] at c1
  generalize encS kind (p0 :: ps) = z at *
  cases l with
  | nil => simp [tmL, kvGet] at hg
  | cons s l =>
    simp only [tabE] at *
    generalize nmL (s :: l) = a1 at *
    generalize tmL (s :: l) = a2 at *
    generalize alL (s :: l) = a3 at *
    refine FnR.of_walk (m := 34) (n0 := 16) tt_ok Try.func15 rfl rfl (by simp) (by simp [nmH]) ?_
    rw [show Try.f15.results.toList = [.tmp 4, .tmp 5, .tmp 6] from rfl]
    refine W.seqK fun K hK => W.regionK tt_ok ?_
    simp only [exOps_nil, exOps_cons, exOp_eq, nx_eq, cur_eq, stepQ, ev, ofV, parT, putT, erA, inB, opt, ret, onQ, ap, true_and, Nat.reduceEqDiff, Nat.reduceLT, Nat.reduceAdd, Nat.zero_add, if_false, reduceCtorEq]
    refine hK _ ?_
    clear hK K
    refine W.seqK fun Kx hKx => ?_
    refine W.seqK fun K hK => W.regionK tt_ok ?_
    simp only [exOps_cons, exOp_eq, exCall_eq, nx_eq, cur_eq, evL, stepQ, ev, lk, putT, erA, inB, opt, ret, onQ, ap, true_and, Nat.reduceEqDiff, Nat.reduceLT, Nat.reduceAdd, if_true, if_false, reduceCtorEq, Option.bind_some, Option.map_some]
    refine CallK.with [(0, .obj 53 (.agg [.mp 1, .mp 2, .sl 3 1 0 (l.length + 1)])), (1, .mset (.strs a1)), (2, .mset (.strs a2)), (3, .vec 9 (.strs a3))] [(0, .obj 53 (.agg [.mp 1, .mp 2, .sl 3 1 0 (l.length + 1)])), (1, .mset (.strs a1)), (2, .mset (.strs a2)), (3, .vec 9 (.strs a3))] _ _ c0 call29 (by simp only [AV.nmIn, bnd, req, ret, onQ, AV.isTup, isTupL, and_true, true_and, and_self, Bool.false_eq_true, List.append_nil, vw.vwL, vw, AV.free, Bool.or_self]; all_goals (and_intros <;> first | exact AV.subL_refl _ | omega | (simp [AV.sub, entsFree, Ent.free, Row.free]; done) | rfl | (simp [AV.subL_refl]; done))) (by simp [leL, lk]) (by intro n hn; first | (left; revert hn; simp [Nm, lk]; done) | (right; revert hn; simp only [Nm, lk]; split <;> simp <;> omega) | (by_cases h1 : Nm [(0, .obj 53 (.agg [.mp 1, .mp 2, .sl 3 1 0 (l.length + 1)])), (1, .mset (.strs a1)), (2, .mset (.strs a2)), (3, .vec 9 (.strs a3))] n; exact .inl h1; right; revert hn h1; simp only [Nm, lk]; split <;> (try split) <;> (try split) <;> (try split) <;> (try simp) <;> (try omega))) (by simp [entsIn, Ent.nmIn, Row.nmIn, AV.nmIn, AV.nmInL, Nm, lk]) ?_
    simp only [callDel, Bool.not_true, exOps_nil, exOps_cons, exOp_eq, nx_eq, cur_eq, stepQ, ev, lk, putT, erA, inB, opt, bnd, req, ret, onQ, ap, up, er, unF, true_and, and_self, Nat.reduceEqDiff, Nat.reduceLT, Nat.reduceAdd, if_true, if_false, reduceCtorEq, List.nil_append, List.cons_append, List.map_cons, List.map_nil, List.reverse_cons, List.reverse_nil]
    refine hK _ ?_
    clear hK K
    refine W.cond (b := false) (by simp only [ev, lk, Nat.reduceEqDiff, if_true, if_false, reduceCtorEq]) (fun h => absurd h (by simp)) (fun _ => W.skip ?_)
    simp only [thn_normal]
    refine hKx _ ?_
    refine W.seqK fun K hK => W.regionK tt_ok ?_
    simp only [exOps_nil, exOps_cons, exOp_eq, nx_eq, cur_eq, stepQ, ev, lk, putT, erA, inB, opt, bnd, req, ret, onQ, ap, AV.isTup, notNil, ldP, ldE, ldC, ldS, Kd.agg, comps, csize, takeI, takeC, dropC, fldF, lkoQ, kvOr, Kv.av, true_and, and_self, Nat.reduceEqDiff, Nat.reduceLT, Nat.reduceLeDiff, Nat.reduceAdd, Nat.reduceSub, Nat.sub_self, Nat.le_refl, Nat.zero_add, if_true, if_false, Bool.false_eq_true, reduceCtorEq, ne_eq, not_false_eq_true, List.getElem?_cons_zero, List.getElem?_cons_succ, Option.bind_some, Option.map_some, tt_9, tt_51, tt_53, hg, Option.isSome_some]
    refine hK _ ?_
    clear hK K
    refine W.seqK fun Ky hKy => ?_
    refine W.seqK fun K hK => W.regionK tt_ok ?_
    simp only [Bool.not_true, exOps_nil, exOps_cons, exOp_eq, nx_eq, cur_eq, stepQ, ev, lk, putT, erA, inB, opt, bnd, req, ret, onQ, ap, unF, true_and, and_self, Nat.reduceEqDiff, Nat.reduceLT, Nat.reduceAdd, if_true, if_false, reduceCtorEq]
    refine hK _ ?_
    clear hK K
    refine W.cond (b := false) (by simp only [ev, lk, Nat.reduceEqDiff, if_true, if_false, reduceCtorEq]) (fun h => absurd h (by simp)) (fun _ => W.skip ?_)
    simp only [thn_normal]
    refine hKy _ ?_
    refine W.seqK fun K hK => W.regionK tt_ok ?_
    simp only [exOps_cons, exOp_eq, exCall_eq, nx_eq, cur_eq, evL, stepQ, ev, lk, putT, erA, inB, opt, ret, onQ, ap, true_and, Nat.reduceEqDiff, Nat.reduceLT, Nat.reduceAdd, if_true, if_false, reduceCtorEq, Option.bind_some, Option.map_some]
    refine CallK.pure _ _ c1 call31 (by simp only [AV.nmIn, bnd, req, ret, onQ, AV.isTup, isTupL, true_and, and_self, Bool.false_eq_true, List.append_nil, vw.vwL, vw, AV.free, AV.freeL, Bool.or_self]; all_goals (and_intros <;> first | exact AV.subL_refl _ | omega | (simp [AV.sub]; done) | rfl | (simp [AV.subL_refl]; done) | (simp; exact AV.subL_refl _))) ?_
    simp only [exOps_nil, exOps_cons, exOp_eq, nx_eq, cur_eq, stepQ, ev, lk, putT, erA, inB, opt, ret, onQ, ap, true_and, Nat.reduceEqDiff, Nat.reduceLT, Nat.reduceAdd, if_true, if_false, reduceCtorEq, List.getElem?_cons_zero, List.getElem?_cons_succ]
    refine hK _ ?_
    clear hK K
    refine W.seqK fun K hK => W.regionK tt_ok ?_
    simp only [exOps_nil, exOps_cons, exOp_eq, nx_eq, cur_eq, stepQ, ev, ofV, lk, putT, erA, inB, opt, ret, onQ, ap, true_and, Nat.reduceEqDiff, Nat.reduceLT, Nat.reduceAdd, if_true, if_false, reduceCtorEq]
    refine hK _ ?_
    clear hK K
    refine W.ret ?_
    simp only [fin_ret, finB, resQ, resV, leL, AV.nmIn, AV.nmInL, entsIn, lk, opt, bnd, req, ret, onQ, AV.isTup, and_true, true_and, and_self, Nat.reduceEqDiff, if_true, if_false, reduceCtorEq]
    simp [Nm, lk, Ent.nmIn, Row.nmIn, AV.nmIn, AV.nmInL]
theorem call15 : Callable Try.prog 15 := ⟨_, Try.func15, by kernel_rfl, by kernel_rfl⟩
end Go.Proofs.Ytjnhpklhdikcdaa
