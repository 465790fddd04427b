/- Skipped keys: Put. -/
import Derived.Test.YthnkhdenkagceaaSkD
-- TT 3 4 9 28 33 29
-- SIMP viewEL_its nm_its
set_option linter.unusedVariables false
set_option linter.unusedSimpArgs false
namespace Go.Proofs.Ythnkhdenkagceaa
open Sx
set_option maxRecDepth 100000
set_option maxHeartbeats 1000000
def eS : ByteArray := ⟨#[]⟩
/-- Is the key one that may not be put? -/
def badI (x : It) : Bool := decide (x.n < 0) || sEq x.k eS
theorem append_its (l : List It) (x : It) : l.map itV ++ [itV x] = (l ++ [x]).map itV := by simp
theorem put_bad (l : List It) (x : It) (hl : l.length ≤ 999999) (hb : badI x = true) :
    FnR Try.prog G 10 [.sl 0 3 0 l.length, itV x] [(0, rw3 l)] (.tup [.sl 1080 3 0 l.length, .bool false, .int .i64 2]) [(1080, rw3 l), (0, rw3 l)] := by
  have cc := clone_own 0 1080 (by omega) l (by omega)
  unfold rw3 at *
  rw [itV]
  refine FnR.of_walk (m := 39) (n0 := 1000) tt_ok Try.func10 rfl rfl (by simp) (by simp [nmH]) ?_
  rw [show Try.f10.results.toList = [.tmp 4, .tmp 5, .tmp 6] from rfl]
  refine W.seqK fun K hK => W.regionK tt_ok ?_
  simp only [exOps_nil, exOps_cons, exOp_eq, nx_eq, cur_eq, stepQ, ev, ofV, lk, parT, putT, erA, inB, opt, req, ret, onQ, ap, up, er, AV.isTup, true_and, and_self, Nat.reduceEqDiff, Nat.reduceLT, Nat.reduceAdd, Nat.zero_add, if_true, if_false, reduceCtorEq]
  refine hK _ ?_
  clear hK K
  refine W.seqK fun K hK => W.regionK tt_ok ?_
  simp only [exOps_cons, exOp_eq, exCall_eq, nx_eq, cur_eq, evL, stepQ, ev, lk, putT, erA, inB, opt, ret, onQ, ap, true_and, Nat.reduceEqDiff, Nat.reduceLT, Nat.reduceAdd, if_true, if_false, reduceCtorEq, Option.bind_some, Option.map_some]
  refine CallK.with [(0, .vec 33 (.avs 3 (l.map itV)))] [(1080, .vec 33 (.avs 3 (l.map itV))), (0, .vec 33 (.avs 3 (l.map itV)))] _ _ cc call22 (by simp only [lk, bnd, req, ret, onQ, AV.isTup, isTupL, true_and, and_self, if_true, Bool.false_eq_true, List.append_nil, vw.vwL, vw, AV.free, Bool.or_self]; all_goals (and_intros <;> first | exact AV.subL_refl _ | omega | (simp [AV.sub, entsFree]; done) | rfl | (simp [AV.subL_refl]; done))) (by simp [leL, lk]) (by intro n hn; first | (left; revert hn; simp [Nm, lk]; done) | (right; revert hn; simp only [Nm, lk]; split <;> simp <;> omega) | (by_cases h1 : Nm [(0, .vec 33 (.avs 3 (l.map itV)))] n; exact .inl h1; right; revert hn h1; simp only [Nm, lk]; split <;> (try split) <;> (try split) <;> (try split) <;> (try simp) <;> (try omega))) (by simp [entsIn, Ent.nmIn, Row.nmIn, nm_its]) ?_
  simp only [callDel, exOps_nil, exOps_cons, exOp_eq, nx_eq, cur_eq, stepQ, ev, lk, putT, erA, inB, opt, ret, onQ, ap, up, er, true_and, Nat.reduceEqDiff, Nat.reduceLT, Nat.reduceAdd, if_true, if_false, reduceCtorEq, List.nil_append, List.cons_append, List.map_cons, List.map_nil, List.reverse_cons, List.reverse_nil]
  refine hK _ ?_
  clear hK K
  refine W.seqK fun Kz hKz => ?_
  refine W.blockK ?_
  by_cases h1 : x.n < 0
  · refine W.seqK fun K hK => W.regionK tt_ok ?_
    simp only [↓gTF, ↓nTF, decide_true, exOps_nil, exOps_cons, exOp_eq, nx_eq, cur_eq, stepQ, ev, ofV, lk, putT, erA, inB, opt, bnd, req, ret, onQ, ap, binG, binF, intF, pickF, ldP, ldE, ldC, ldS, Kd.agg, comps, csize, takeI, takeC, dropC, fldF, true_and, and_self, Nat.reduceEqDiff, Nat.reduceLT, Nat.reduceLeDiff, Nat.reduceAdd, Nat.reduceSub, Nat.sub_self, Nat.le_refl, Nat.zero_add, if_true, if_false, Bool.false_eq_true, reduceCtorEq, ne_eq, not_false_eq_true, List.getElem?_cons_zero, List.getElem?_cons_succ, Option.bind_some, Option.map_some, tt_3, tt_33, h1]
    refine hK _ ?_
    clear hK K
    refine W.cond (b := true) (by simp only [ev, lk, Nat.reduceEqDiff, if_true, if_false, reduceCtorEq]) (fun _ => ?_) (fun h => absurd h (by simp))
    refine W.seqK fun K hK => W.regionK tt_ok ?_
    simp only [exOps_nil, exOps_cons, exOp_eq, nx_eq, cur_eq, stepQ, ev, ofV, lk, putT, erA, inB, opt, ret, onQ, ap, true_and, Nat.reduceEqDiff, Nat.reduceLT, Nat.reduceAdd, if_true, if_false, reduceCtorEq]
    refine hK _ ?_
    clear hK K
    refine W.ret ?_
    simp only [fin_ret, finB, resQ, resV, leL, AV.nmIn, AV.nmInL, entsIn, lk, opt, bnd, req, ret, onQ, AV.isTup, thn_ret, inb_ret, and_true, true_and, and_self, Nat.reduceEqDiff, if_true, if_false, reduceCtorEq]
    simp [Nm, lk, Ent.nmIn, Row.nmIn, nm_its]
  · have h2 : (x.k.toList == (ByteArray.mk #[]).toList) = true := by
      simp only [badI, h1, decide_false, Bool.false_or, sEq, eS] at hb; exact hb
    refine W.seqK fun K hK => W.regionK tt_ok ?_
    simp only [↓gFF, ↓nFF, decide_false, exOps_nil, exOps_cons, exOp_eq, nx_eq, cur_eq, stepQ, ev, ofV, lk, putT, erA, inB, opt, bnd, req, ret, onQ, ap, binG, binF, intF, strF, pickF, ldP, ldE, ldC, ldS, Kd.agg, comps, csize, takeI, takeC, dropC, fldF, and_true, true_and, and_self, Nat.reduceEqDiff, Nat.reduceLT, Nat.reduceLeDiff, Nat.reduceAdd, Nat.reduceSub, Nat.sub_self, Nat.le_refl, Nat.zero_add, if_true, if_false, Bool.false_eq_true, reduceCtorEq, ne_eq, not_false_eq_true, List.getElem?_cons_zero, List.getElem?_cons_succ, Option.bind_some, Option.map_some, tt_3, tt_9, tt_33, h1, h2]
    refine hK _ ?_
    clear hK K
    refine W.cond (b := true) (by simp only [ev, lk, Nat.reduceEqDiff, if_true, if_false, reduceCtorEq]) (fun _ => ?_) (fun h => absurd h (by simp))
    refine W.seqK fun K hK => W.regionK tt_ok ?_
    simp only [exOps_nil, exOps_cons, exOp_eq, nx_eq, cur_eq, stepQ, ev, ofV, lk, putT, erA, inB, opt, ret, onQ, ap, true_and, Nat.reduceEqDiff, Nat.reduceLT, Nat.reduceAdd, if_true, if_false, reduceCtorEq]
    refine hK _ ?_
    clear hK K
    refine W.ret ?_
    simp only [fin_ret, finB, resQ, resV, leL, AV.nmIn, AV.nmInL, entsIn, lk, opt, bnd, req, ret, onQ, AV.isTup, thn_ret, inb_ret, and_true, true_and, and_self, Nat.reduceEqDiff, if_true, if_false, reduceCtorEq]
    simp [Nm, lk, Ent.nmIn, Row.nmIn, nm_its]
theorem put_have (l : List It) (x : It) (hl : l.length ≤ 999999) (hb : badI x = false) (hh : 0 ≤ fI (isB x) l) :
    FnR Try.prog G 10 [.sl 0 3 0 l.length, itV x] [(0, rw3 l)] (.tup [.sl 1080 3 0 l.length, .bool false, .int .i64 10]) [(1080, rw3 l), (0, rw3 l)] := by
  have cc := clone_own 0 1080 (by omega) l (by omega)
  have ch := has_is l x (by omega)
  rw [decide_eq_true hh] at ch
  simp only [badI, sEq, eS, Bool.or_eq_false_iff, decide_eq_false_iff_not] at hb
  obtain ⟨h1, h2⟩ := hb
  unfold rw3 at *
  rw [itV] at *
  refine FnR.of_walk (m := 39) (n0 := 1000) tt_ok Try.func10 rfl rfl (by simp) (by simp [nmH]) ?_
  rw [show Try.f10.results.toList = [.tmp 4, .tmp 5, .tmp 6] from rfl]
  refine W.seqK fun K hK => W.regionK tt_ok ?_
  simp only [exOps_nil, exOps_cons, exOp_eq, nx_eq, cur_eq, stepQ, ev, ofV, lk, parT, putT, erA, inB, opt, req, ret, onQ, ap, up, er, AV.isTup, true_and, and_self, Nat.reduceEqDiff, Nat.reduceLT, Nat.reduceAdd, Nat.zero_add, if_true, if_false, reduceCtorEq]
  refine hK _ ?_
  clear hK K
  refine W.seqK fun K hK => W.regionK tt_ok ?_
  simp only [exOps_cons, exOp_eq, exCall_eq, nx_eq, cur_eq, evL, stepQ, ev, lk, putT, erA, inB, opt, ret, onQ, ap, true_and, Nat.reduceEqDiff, Nat.reduceLT, Nat.reduceAdd, if_true, if_false, reduceCtorEq, Option.bind_some, Option.map_some]
  refine CallK.with [(0, .vec 33 (.avs 3 (l.map itV)))] [(1080, .vec 33 (.avs 3 (l.map itV))), (0, .vec 33 (.avs 3 (l.map itV)))] _ _ cc call22 (by simp only [lk, bnd, req, ret, onQ, AV.isTup, isTupL, true_and, and_self, if_true, Bool.false_eq_true, List.append_nil, vw.vwL, vw, AV.free, Bool.or_self]; all_goals (and_intros <;> first | exact AV.subL_refl _ | omega | (simp [AV.sub, entsFree]; done) | rfl | (simp [AV.subL_refl]; done))) (by simp [leL, lk]) (by intro n hn; first | (left; revert hn; simp [Nm, lk]; done) | (right; revert hn; simp only [Nm, lk]; split <;> simp <;> omega) | (by_cases h1 : Nm [(0, .vec 33 (.avs 3 (l.map itV)))] n; exact .inl h1; right; revert hn h1; simp only [Nm, lk]; split <;> (try split) <;> (try split) <;> (try split) <;> (try simp) <;> (try omega))) (by simp [entsIn, Ent.nmIn, Row.nmIn, nm_its]) ?_
  simp only [callDel, exOps_nil, exOps_cons, exOp_eq, nx_eq, cur_eq, stepQ, ev, lk, putT, erA, inB, opt, ret, onQ, ap, up, er, true_and, Nat.reduceEqDiff, Nat.reduceLT, Nat.reduceAdd, if_true, if_false, reduceCtorEq, List.nil_append, List.cons_append, List.map_cons, List.map_nil, List.reverse_cons, List.reverse_nil]
  refine hK _ ?_
  clear hK K
  refine W.seqK fun Kz hKz => ?_
  refine W.blockK ?_
  refine W.seqK fun K hK => W.regionK tt_ok ?_
  simp only [↓gFF, ↓nFF, decide_false, exOps_nil, exOps_cons, exOp_eq, nx_eq, cur_eq, stepQ, ev, ofV, lk, putT, erA, inB, opt, bnd, req, ret, onQ, ap, binG, binF, intF, strF, pickF, ldP, ldE, ldC, ldS, Kd.agg, comps, csize, takeI, takeC, dropC, fldF, and_true, true_and, and_self, Nat.reduceEqDiff, Nat.reduceLT, Nat.reduceLeDiff, Nat.reduceAdd, Nat.reduceSub, Nat.sub_self, Nat.le_refl, Nat.zero_add, if_true, if_false, Bool.false_eq_true, reduceCtorEq, ne_eq, not_false_eq_true, List.getElem?_cons_zero, List.getElem?_cons_succ, Option.bind_some, Option.map_some, tt_3, tt_9, tt_33, h1, h2]
  refine hK _ ?_
  clear hK K
  refine W.cond (b := false) (by simp only [ev, lk, Nat.reduceEqDiff, if_true, if_false, reduceCtorEq]) (fun h => absurd h (by simp)) (fun _ => ?_)
  refine W.seqK fun K hK => W.regionK tt_ok ?_
  simp only [Bool.or_false, exOps_cons, exOp_eq, exCall_eq, nx_eq, cur_eq, evL, stepQ, ev, lk, putT, erA, inB, opt, bnd, req, ret, onQ, ap, AV.isTup, isTupL, ldP, ldE, ldC, ldS, Kd.agg, comps, csize, takeI, takeC, dropC, mkfQ, true_and, and_self, Nat.reduceEqDiff, Nat.reduceLT, Nat.reduceLeDiff, Nat.reduceAdd, Nat.reduceSub, Nat.sub_self, Nat.le_refl, if_true, if_false, reduceCtorEq, Option.bind_some, Option.map_some, tt_33]
  refine CallK.pure _ _ ch call23 (by simp only [Bool.or_false, AV.nmIn, AV.nmInL, lk, opt, bnd, req, ret, onQ, AV.isTup, isTupL, Ent.row, and_true, true_and, and_self, Nat.reduceEqDiff, Nat.zero_add, if_true, if_false, reduceCtorEq, forall_const, List.append_nil, viewEL_its, vw.vwL, vw, viewL, AV.free, Ent.row, Bool.or_self]; all_goals (and_intros <;> first | exact AV.subL_refl _ | omega | (simp [AV.sub]; done) | rfl | (simp [AV.subL_refl]; done) | (simp; exact AV.subL_refl _))) ?_
  simp only [exOps_nil, exOps_cons, exOp_eq, nx_eq, cur_eq, stepQ, ev, lk, putT, erA, inB, opt, ret, onQ, ap, true_and, Nat.reduceEqDiff, Nat.reduceLT, Nat.reduceAdd, if_true, if_false, reduceCtorEq]
  refine hK _ ?_
  clear hK K
  refine W.cond (b := true) (by simp only [ev, lk, Nat.reduceEqDiff, if_true, if_false, reduceCtorEq]) (fun _ => ?_) (fun h => absurd h (by simp))
  refine W.seqK fun K hK => W.regionK tt_ok ?_
  simp only [exOps_nil, exOps_cons, exOp_eq, nx_eq, cur_eq, stepQ, ev, ofV, lk, putT, erA, inB, opt, ret, onQ, ap, true_and, Nat.reduceEqDiff, Nat.reduceLT, Nat.reduceAdd, if_true, if_false, reduceCtorEq]
  refine hK _ ?_
  clear hK K
  refine W.ret ?_
  simp only [fin_ret, finB, resQ, resV, leL, AV.nmIn, AV.nmInL, entsIn, lk, opt, bnd, req, ret, onQ, AV.isTup, thn_ret, inb_ret, and_true, true_and, and_self, Nat.reduceEqDiff, if_true, if_false, reduceCtorEq]
  simp [Nm, lk, Ent.nmIn, Row.nmIn, nm_its]
theorem put_new (l : List It) (x : It) (hl : l.length ≤ 999999) (hb : badI x = false) (hh : ¬ 0 ≤ fI (isB x) l) :
    FnR Try.prog G 10 [.sl 0 3 0 l.length, itV x] [(0, rw3 l)] (.tup [.sl 1384 3 0 ((l ++ [x]).drop (l.length + 1 - 40)).length, .bool (decide (40 < l.length + 1)), .int .i64 0]) [(1384, rw3 ((l ++ [x]).drop (l.length + 1 - 40))), (0, rw3 l)] := by
  have cc := clone_own 0 1080 (by omega) l (by omega)
  have ch := has_is l x (by omega)
  rw [decide_eq_false hh] at ch
  simp only [badI, sEq, eS, Bool.or_eq_false_iff, decide_eq_false_iff_not] at hb
  obtain ⟨h1, h2⟩ := hb
  have hll : (l ++ [x]).length = l.length + 1 := by simp
  have cd : FnR Try.prog G 25 [.sl 1384 3 0 (l.length + 1), .int .i64 0, .int .i64 ((l.length + 1 - 40 : Nat) : Int)] [(1384, rw3 (l ++ [x]))] (.sl 1384 3 0 ((l ++ [x]).drop (l.length + 1 - 40)).length) [(1384, rw3 ((l ++ [x]).drop (l.length + 1 - 40)))] := by
    have := delete_tr 1384 0 (l.length + 1 - 40) (l ++ [x]) (by simp; omega) (by omega) (by simp; omega)
    rw [hll] at this
    exact this
  generalize hD : (l ++ [x]).drop (l.length + 1 - 40) = D at *
  have happ := append_its l x
  have ht1 : ∀ a : AV, List.take 1 (List.drop 0 [a]) = [a] := fun _ => rfl
  generalize l ++ [x] = L1 at *
  have hml : (l.map itV).length = l.length := List.length_map ..
  have hmt : List.take l.length (l.map itV) = l.map itV := List.take_of_length_le (by simp)
  unfold rw3 at *
  rw [itV] at *
  refine FnR.of_walk (m := 39) (n0 := 1000) tt_ok Try.func10 rfl rfl (by simp) (by simp [nmH]) ?_
  rw [show Try.f10.results.toList = [.tmp 4, .tmp 5, .tmp 6] from rfl]
  refine W.seqK fun K hK => W.regionK tt_ok ?_
  simp only [exOps_nil, exOps_cons, exOp_eq, nx_eq, cur_eq, stepQ, ev, ofV, lk, parT, putT, erA, inB, opt, req, ret, onQ, ap, up, er, AV.isTup, true_and, and_self, Nat.reduceEqDiff, Nat.reduceLT, Nat.reduceAdd, Nat.zero_add, if_true, if_false, reduceCtorEq]
  refine hK _ ?_
  clear hK K
  refine W.seqK fun K hK => W.regionK tt_ok ?_
  simp only [exOps_cons, exOp_eq, exCall_eq, nx_eq, cur_eq, evL, stepQ, ev, lk, putT, erA, inB, opt, ret, onQ, ap, true_and, Nat.reduceEqDiff, Nat.reduceLT, Nat.reduceAdd, if_true, if_false, reduceCtorEq, Option.bind_some, Option.map_some]
  refine CallK.with [(0, .vec 33 (.avs 3 (l.map itV)))] [(1080, .vec 33 (.avs 3 (l.map itV))), (0, .vec 33 (.avs 3 (l.map itV)))] _ _ cc call22 (by simp only [lk, bnd, req, ret, onQ, AV.isTup, isTupL, true_and, and_self, if_true, Bool.false_eq_true, List.append_nil, vw.vwL, vw, AV.free, Bool.or_self]; all_goals (and_intros <;> first | exact AV.subL_refl _ | omega | (simp [AV.sub, entsFree]; done) | rfl | (simp [AV.subL_refl]; done))) (by simp [leL, lk]) (by intro n hn; first | (left; revert hn; simp [Nm, lk]; done) | (right; revert hn; simp only [Nm, lk]; split <;> simp <;> omega) | (by_cases h1 : Nm [(0, .vec 33 (.avs 3 (l.map itV)))] n; exact .inl h1; right; revert hn h1; simp only [Nm, lk]; split <;> (try split) <;> (try split) <;> (try split) <;> (try simp) <;> (try omega))) (by simp [entsIn, Ent.nmIn, Row.nmIn, nm_its]) ?_
  simp only [callDel, exOps_nil, exOps_cons, exOp_eq, nx_eq, cur_eq, stepQ, ev, lk, putT, erA, inB, opt, ret, onQ, ap, up, er, true_and, Nat.reduceEqDiff, Nat.reduceLT, Nat.reduceAdd, if_true, if_false, reduceCtorEq, List.nil_append, List.cons_append, List.map_cons, List.map_nil, List.reverse_cons, List.reverse_nil]
  refine hK _ ?_
  clear hK K
  refine W.seqK fun Kz hKz => ?_
  refine W.blockK ?_
  refine W.seqK fun K hK => W.regionK tt_ok ?_
  simp only [↓gFF, ↓nFF, decide_false, exOps_nil, exOps_cons, exOp_eq, nx_eq, cur_eq, stepQ, ev, ofV, lk, putT, erA, inB, opt, bnd, req, ret, onQ, ap, binG, binF, intF, strF, pickF, ldP, ldE, ldC, ldS, Kd.agg, comps, csize, takeI, takeC, dropC, fldF, and_true, true_and, and_self, Nat.reduceEqDiff, Nat.reduceLT, Nat.reduceLeDiff, Nat.reduceAdd, Nat.reduceSub, Nat.sub_self, Nat.le_refl, Nat.zero_add, if_true, if_false, Bool.false_eq_true, reduceCtorEq, ne_eq, not_false_eq_true, List.getElem?_cons_zero, List.getElem?_cons_succ, Option.bind_some, Option.map_some, tt_3, tt_9, tt_33, h1, h2]
  refine hK _ ?_
  clear hK K
  refine W.cond (b := false) (by simp only [ev, lk, Nat.reduceEqDiff, if_true, if_false, reduceCtorEq]) (fun h => absurd h (by simp)) (fun _ => ?_)
  refine W.seqK fun K hK => W.regionK tt_ok ?_
  simp only [Bool.or_false, exOps_cons, exOp_eq, exCall_eq, nx_eq, cur_eq, evL, stepQ, ev, lk, putT, erA, inB, opt, bnd, req, ret, onQ, ap, AV.isTup, isTupL, ldP, ldE, ldC, ldS, Kd.agg, comps, csize, takeI, takeC, dropC, mkfQ, true_and, and_self, Nat.reduceEqDiff, Nat.reduceLT, Nat.reduceLeDiff, Nat.reduceAdd, Nat.reduceSub, Nat.sub_self, Nat.le_refl, if_true, if_false, reduceCtorEq, Option.bind_some, Option.map_some, tt_33]
  refine CallK.pure _ _ ch call23 (by simp only [Bool.or_false, AV.nmIn, AV.nmInL, lk, opt, bnd, req, ret, onQ, AV.isTup, isTupL, Ent.row, and_true, true_and, and_self, Nat.reduceEqDiff, Nat.zero_add, if_true, if_false, reduceCtorEq, forall_const, List.append_nil, viewEL_its, vw.vwL, vw, viewL, AV.free, Ent.row, Bool.or_self]; all_goals (and_intros <;> first | exact AV.subL_refl _ | omega | (simp [AV.sub]; done) | rfl | (simp [AV.subL_refl]; done) | (simp; exact AV.subL_refl _))) ?_
  simp only [exOps_nil, exOps_cons, exOp_eq, nx_eq, cur_eq, stepQ, ev, lk, putT, erA, inB, opt, ret, onQ, ap, true_and, Nat.reduceEqDiff, Nat.reduceLT, Nat.reduceAdd, if_true, if_false, reduceCtorEq]
  refine hK _ ?_
  clear hK K
  refine W.cond (b := false) (by simp only [ev, lk, Nat.reduceEqDiff, if_true, if_false, reduceCtorEq]) (fun h => absurd h (by simp)) (fun _ => W.skip ?_)
  simp only [thn_normal, inb_normal]
  refine hKz _ ?_
  refine W.seqK fun K hK => W.regionK tt_ok ?_
  simp only [exOps_nil, exOps_cons, exOp_eq, exCall_eq, nx_eq, cur_eq, evL, evP, stepQ, ev, lk, putT, erA, inB, opt, bnd, req, ret, onQ, ap, up, er, AV.isTup, AV.isAgg, ldP, ldE, ldC, ldS, Kd.agg, comps, szL, csize, takeI, takeC, dropC, stC, stS, bltQ, bltV, appR, appQ, appV, srcQ, Row.len, Row.sz, Row.take, Row.drop, Row.app, Ent.row, bldA, bslQ, zeroCs, cellsRow, chunks, ones, and_true, true_and, and_self, or_false, Nat.reduceEqDiff, Nat.reduceLT, Nat.reduceLeDiff, Nat.reduceAdd, Nat.reduceSub, Nat.reduceMul, Nat.sub_self, Nat.le_refl, Nat.add_zero, Nat.zero_add, if_true, if_false, cond_true, reduceCtorEq, Option.bind_some, Option.map_some, List.append_nil, List.nil_append, tt_28, tt_33, lit1, beq_self_eq_true, Bool.and_self, List.flatten_cons, List.flatten_nil, List.length_cons, List.length_nil, ht1, hml, hmt, happ]
  repeat (refine ⟨by omega, ?_⟩)
  refine hK _ ?_
  clear hK K
  have hw : IntKind.i64.wrap (((l.length + 1 : Nat) : Int) - 40) = (l.length : Int) + 1 - 40 := by rw [IntKind.wrap_i64]; omega
  have hmx : (if (l.length : Int) + 1 - 40 < 0 then 0 else (l.length : Int) + 1 - 40) = ((l.length + 1 - 40 : Nat) : Int) := by split <;> omega
  have hgt : (0 < ((l.length + 1 - 40 : Nat) : Int)) = (40 < l.length + 1) := propext ⟨fun h => by omega, fun h => by omega⟩
  refine W.seqK fun K hK => W.regionK tt_ok ?_
  simp only [exOps_nil, exOps_cons, exOp_eq, exCall_eq, nx_eq, cur_eq, evL, stepQ, ev, ofV, lk, putT, erA, inB, opt, bnd, req, ret, onQ, ap, binG, binF, intF, bltQ, bltV, lenF, true_and, and_self, or_false, Nat.reduceEqDiff, Nat.reduceLT, Nat.reduceAdd, if_true, if_false, reduceCtorEq, List.getElem?_cons_zero, Option.bind_some, Option.map_some, tt_28, hw, hmx]
  refine hK _ ?_
  clear hK K
  refine W.seqK fun K hK => W.regionK tt_ok ?_
  simp only [exOps_cons, exOp_eq, exCall_eq, nx_eq, cur_eq, evL, stepQ, ev, ofV, lk, putT, erA, inB, opt, ret, onQ, ap, true_and, Nat.reduceEqDiff, Nat.reduceLT, Nat.reduceAdd, if_true, if_false, reduceCtorEq, Option.bind_some, Option.map_some]
  refine CallK.with [(1384, .vec 33 (.avs 3 (L1.map itV)))] [(1384, .vec 33 (.avs 3 (D.map itV)))] _ _ cd call25 (by simp only [AV.nmIn, lk, bnd, req, ret, onQ, AV.isTup, isTupL, true_and, and_self, if_true, Bool.false_eq_true, List.append_nil, vw.vwL, vw, AV.free, Bool.or_self]; all_goals (and_intros <;> first | exact AV.subL_refl _ | omega | (simp [AV.sub, entsFree]; done) | rfl | (simp [AV.subL_refl]; done))) (by simp [leL, lk]) (by intro n hn; first | (left; revert hn; simp [Nm, lk]; done) | (right; revert hn; simp only [Nm, lk]; split <;> simp <;> omega) | (by_cases h1 : Nm [(1384, .vec 33 (.avs 3 (L1.map itV)))] n; exact .inl h1; right; revert hn h1; simp only [Nm, lk]; split <;> (try split) <;> (try split) <;> (try split) <;> (try simp) <;> (try omega))) (by simp [entsIn, Ent.nmIn, Row.nmIn, nm_its]) ?_
  simp only [callDel, exOps_nil, exOps_cons, exOp_eq, nx_eq, cur_eq, stepQ, ev, ofV, lk, putT, erA, inB, opt, bnd, req, ret, onQ, ap, up, er, binG, binF, intF, true_and, and_self, Nat.reduceEqDiff, Nat.reduceLT, Nat.reduceAdd, if_true, if_false, reduceCtorEq, List.nil_append, List.cons_append, List.map_cons, List.map_nil, List.reverse_cons, List.reverse_nil]
  refine hK _ ?_
  clear hK K
  refine W.ret ?_
  simp only [fin_ret, finB, resQ, resV, leL, AV.nmIn, AV.nmInL, entsIn, lk, opt, bnd, req, ret, onQ, AV.isTup, and_true, true_and, and_self, Nat.reduceEqDiff, if_true, if_false, reduceCtorEq]
  simp only [hgt]
  simp [Nm, lk, Ent.nmIn, Row.nmIn, nm_its]
/-- What Put comes to: the store, whether one is gone, and the error. -/
def putS (l : List It) (x : It) : List It := if badI x || decide (0 ≤ fI (isB x) l) then l else (l ++ [x]).drop (l.length + 1 - 40)
def putB (l : List It) (x : It) : Bool := !(badI x || decide (0 ≤ fI (isB x) l)) && decide (40 < l.length + 1)
def putE (l : List It) (x : It) : Int := if badI x then 2 else if 0 ≤ fI (isB x) l then 10 else 0
theorem put_own (X Y : Nat) (h : X ≠ Y) (l : List It) (x : It) (hl : l.length ≤ 999999) :
    FnR Try.prog G 10 [.sl X 3 0 l.length, itV x] [(X, rw3 l)] (.tup [.sl Y 3 0 (putS l x).length, .bool (putB l x), .int .i64 (putE l x)]) [(Y, rw3 (putS l x)), (X, rw3 l)] := by
  have key : ∀ (m : Nat), m ≠ 0 → FnR Try.prog G 10 [.sl 0 3 0 l.length, itV x] [(0, rw3 l)] (.tup [.sl m 3 0 (putS l x).length, .bool (putB l x), .int .i64 (putE l x)]) [(m, rw3 (putS l x)), (0, rw3 l)] →
      FnR Try.prog G 10 [.sl X 3 0 l.length, itV x] [(X, rw3 l)] (.tup [.sl Y 3 0 (putS l x).length, .bool (putB l x), .int .i64 (putE l x)]) [(Y, rw3 (putS l x)), (X, rw3 l)] := by
    intro m hm hF
    obtain ⟨e1, e2⟩ := two_names (m := m) h hm
    have h := (hF.swap 0 X).swap (swp 0 X m) Y
    simpa only [List.map_cons, List.map_nil, AV.map, AV.mapL, enMap, rw3, Ent.map, Row.map, ml_its, e1, e2, itV] using h
  cases hb : badI x with
  | true =>
    refine key 1080 (by omega) ?_
    have := put_bad l x hl hb
    simpa [putS, putB, putE, hb] using this
  | false =>
    by_cases hh : 0 ≤ fI (isB x) l
    · refine key 1080 (by omega) ?_
      have := put_have l x hl hb hh
      simpa [putS, putB, putE, hb, hh] using this
    · refine key 1384 (by omega) ?_
      have := put_new l x hl hb hh
      simpa only [putS, putB, putE, hb, hh, Bool.false_or, decide_false, Bool.false_eq_true, if_false, Bool.not_false, Bool.true_and] using this
theorem call10 : Callable Try.prog 10 := ⟨_, Try.func10, by kernel_rfl, by kernel_rfl⟩
end Go.Proofs.Ythnkhdenkagceaa
