/- low: a number in 8 bytes, the lowest first, behind others. -/
import Derived.Test.YtakgcmponelbeaaDoorAeB
import Derived.Test.YtakgcmponelbeaaDoorSxW
-- TT 3 5 23 24
set_option linter.unusedVariables false
set_option linter.unusedSimpArgs false
namespace Go.Proofs.YtakgcmponelbeaaDoor
open Sx
set_option maxRecDepth 100000

/-- The bytes so far. -/
def lowL (xs : List Int) (v : Int) : Nat → List Int
  | 0 => xs
  | k + 1 => lowL xs v k ++ [IntKind.u8.wrap (v.fdiv (2 ^ min (8 * k) IntKind.u64.bits))]
theorem lowL_len (xs : List Int) (v : Int) : ∀ k, (lowL xs v k).length = xs.length + k
  | 0 => rfl
  | k + 1 => by simp [lowL, lowL_len xs v k, Nat.add_assoc]
theorem wrap8k (k : Nat) (h : k < 8) : IntKind.i64.wrap (8 * (k : Int)) = ((8 * k : Nat) : Int) := by
  rw [IntKind.wrap_i64]; omega
def lowI (xs : List Int) (v : Int) (k : Nat) : St :=
  match k with
  | 0 => ⟨[(0, .sl 1 1 0 xs.length), (1, .int .u64 v), (6, .int .i64 (0 : Nat))], [(1, .vec 5 (.ints .u8 xs))], 1024, 19⟩
  | k + 1 => ⟨[(0, .sl 1000 1 0 (xs.length + (k + 1))), (1, .int .u64 v), (6, .int .i64 ((k + 1 : Nat) : Int))], [(1000, .vec 5 (.ints .u8 (lowL xs v (k + 1))))], 1024, 19⟩
theorem low_own (xs : List Int) (v : Int) (hx : xs.length ≤ 1000000) :
    FnR Tryd.prog G 21 [.sl 1 1 0 xs.length, .int .u64 v] [(1, .vec 5 (.ints .u8 xs))] (.sl 1000 1 0 (xs.length + 8)) [(1000, .vec 5 (.ints .u8 (lowL xs v 8)))] := by
  refine FnR.of_walk (m := 19) (n0 := 2) tt_ok Tryd.func21 rfl rfl (by simp) (by simp [nmH]) ?_
  rw [show Tryd.f21.results.toList = [.tmp 4] from rfl]
  refine W.seqK fun K hK => W.regionK tt_ok ?_
  simp only [exOps_nil, exOps_cons, exOp_eq, nx_eq, cur_eq, stepQ, ev, ofV, parT, putT, erA, inB, opt, ret, onQ, ap, true_and, Nat.reduceEqDiff, Nat.reduceLT, Nat.reduceAdd, Nat.zero_add, if_false, reduceCtorEq]
  refine hK _ ?_
  clear hK K
  refine W.seqK fun Kz hKz => ?_
  refine W.seqK fun K hK => W.regionK tt_ok ?_
  simp only [exOps_nil, exOps_cons, exOp_eq, nx_eq, cur_eq, stepQ, ev, ofV, putT, erA, inB, opt, ret, onQ, ap, true_and, Nat.reduceEqDiff, Nat.reduceLT, Nat.reduceAdd, if_false, reduceCtorEq]
  refine hK _ ?_
  clear hK K
  refine W.blockK ?_
  refine W.loopS (fun k : Nat => k ≤ 8) (lowI xs v) (fun k => 8 - k) 0 (by simp) (by simp [lowI, wk, leL, lk, nmT, nmE, nmH, AV.nmIn, Ent.nmIn, Row.nmIn]) ?_
  intro k hk K3 hK3
  match k, hk with
  | 0, hk =>
    simp only [lowI]
    by_cases hk8 : 0 < 8
    · have c1 : ((0 : Nat) : Int) < 8 := by omega
      have w8 := wrap8k (0) (by omega)
      have hL := lowL_len xs v (0)
      refine W.seqK fun K hK => W.regionK tt_ok ?_
      simp only [decide_true, exOps_nil, exOps_cons, exOp_eq, nx_eq, cur_eq, stepQ, ev, ofV, lk, putT, erA, inB, opt, bnd, req, ret, onQ, ap, binG, binF, intF, true_and, and_self, Nat.reduceEqDiff, Nat.reduceLT, Nat.reduceAdd, if_true, if_false, reduceCtorEq, c1]
      refine hK _ ?_
      clear hK K
      refine W.seqK fun K hK => ?_
      refine W.cond (b := true) (by simp only [ev, lk, Nat.reduceEqDiff, if_true, if_false, reduceCtorEq]) (fun _ => W.skip ?_) (fun h => absurd h (by simp))
      rw [thn_normal]
      refine hK _ ?_
      clear hK K
      refine W.seqK fun K hK => W.blockK ?_
      refine W.seqK fun K hK => W.regionK tt_ok ?_
      simp only [exOps_nil, exOps_cons, exOp_eq, nx_eq, cur_eq, stepQ, ev, lk, putT, erA, inB, opt, ret, onQ, ap, true_and, Nat.reduceEqDiff, Nat.reduceLT, Nat.reduceAdd, if_true, if_false, reduceCtorEq]
      refine hK _ ?_
      clear hK K
      refine W.region tt_ok ?_
      simp only [exOps_nil, exOps_cons, exOp_eq, exCall_eq, nx_eq, cur_eq, evL, evP, stepQ, ev, ofV, lk, putT, erA, inB, opt, bnd, req, ret, onQ, ap, up, er, AV.isTup, AV.isAgg, binG, binF, intF, shiftF, intsOf, Kd.agg, comps, szL, csize, takeC, dropC, stC, stS, bltQ, bltV, cvQ, appQ, appV, srcQ, Row.len, Row.sz, Row.take, Row.drop, Row.app, Ent.row, bldA, bslQ, zeroCs, cellsRow, thn_normal, inb_normal, and_true, true_and, and_self, and_false, or_false, Nat.reduceEqDiff, Nat.reduceLT, Nat.reduceLeDiff, Nat.reduceAdd, Nat.reduceSub, Nat.reduceMul, Nat.sub_self, Int.toNat_natCast, Nat.le_refl, Nat.add_zero, Nat.zero_add, if_true, if_false, Bool.false_eq_true, reduceCtorEq, Option.bind_some, Option.map_some, List.append_nil, List.nil_append, List.cons_append, tt_5, tt_23, tt_24, w8, List.replicate_succ, List.replicate_zero, List.set_cons_zero, List.length_cons, List.length_nil, List.drop_zero, List.take_succ_cons, List.take_zero, Nat.one_ne_zero, Nat.zero_add, List.take_length, Int.toNat_natCast]
      repeat (refine ⟨by omega, ?_⟩)
      refine hK _ ?_
      clear hK K
      refine W.region tt_ok ?_
      simp only [exOps_nil, exOps_cons, exOp_eq, nx_eq, cur_eq, stepQ, ev, ofV, lk, putT, erA, inB, opt, bnd, req, ret, onQ, ap, binG, binF, intF, thn_normal, true_and, and_self, Nat.reduceEqDiff, Nat.reduceLT, Nat.reduceAdd, Nat.zero_add, if_true, if_false, reduceCtorEq, wrap_up (0) (by omega)]
      refine hK3 _ (0 + 1) 1184 1000 (by omega) (by omega) ⟨⟨by simp [Nm, lk], by simp [Nm, lk]⟩, by simp, by simp⟩ ?_
      simp [lowI, lowL, St.swap, tmMap, enMap, swp, AV.map, Ent.map, Row.map, wk, leL, lk, nmT, nmE, nmH, AV.nmIn, Ent.nmIn, Row.nmIn]
    · omega
  | k + 1, hk =>
    simp only [lowI]
    by_cases hk8 : k + 1 < 8
    · have c1 : ((k + 1 : Nat) : Int) < 8 := by omega
      have w8 := wrap8k (k + 1) (by omega)
      have hL := lowL_len xs v (k + 1)
      refine W.seqK fun K hK => W.regionK tt_ok ?_
      simp only [decide_true, exOps_nil, exOps_cons, exOp_eq, nx_eq, cur_eq, stepQ, ev, ofV, lk, putT, erA, inB, opt, bnd, req, ret, onQ, ap, binG, binF, intF, true_and, and_self, Nat.reduceEqDiff, Nat.reduceLT, Nat.reduceAdd, if_true, if_false, reduceCtorEq, c1]
      refine hK _ ?_
      clear hK K
      refine W.seqK fun K hK => ?_
      refine W.cond (b := true) (by simp only [ev, lk, Nat.reduceEqDiff, if_true, if_false, reduceCtorEq]) (fun _ => W.skip ?_) (fun h => absurd h (by simp))
      rw [thn_normal]
      refine hK _ ?_
      clear hK K
      refine W.seqK fun K hK => W.blockK ?_
      refine W.seqK fun K hK => W.regionK tt_ok ?_
      simp only [exOps_nil, exOps_cons, exOp_eq, nx_eq, cur_eq, stepQ, ev, lk, putT, erA, inB, opt, ret, onQ, ap, true_and, Nat.reduceEqDiff, Nat.reduceLT, Nat.reduceAdd, if_true, if_false, reduceCtorEq]
      refine hK _ ?_
      clear hK K
      refine W.region tt_ok ?_
      simp only [exOps_nil, exOps_cons, exOp_eq, exCall_eq, nx_eq, cur_eq, evL, evP, stepQ, ev, ofV, lk, putT, erA, inB, opt, bnd, req, ret, onQ, ap, up, er, AV.isTup, AV.isAgg, binG, binF, intF, shiftF, intsOf, Kd.agg, comps, szL, csize, takeC, dropC, stC, stS, bltQ, bltV, cvQ, appQ, appV, srcQ, Row.len, Row.sz, Row.take, Row.drop, Row.app, Ent.row, bldA, bslQ, zeroCs, cellsRow, thn_normal, inb_normal, and_true, true_and, and_self, and_false, or_false, Nat.reduceEqDiff, Nat.reduceLT, Nat.reduceLeDiff, Nat.reduceAdd, Nat.reduceSub, Nat.reduceMul, Nat.sub_self, Int.toNat_natCast, Nat.le_refl, Nat.add_zero, Nat.zero_add, if_true, if_false, Bool.false_eq_true, reduceCtorEq, Option.bind_some, Option.map_some, List.append_nil, List.nil_append, List.cons_append, tt_5, tt_23, tt_24, w8, hL, List.replicate_succ, List.replicate_zero, List.set_cons_zero, List.length_cons, List.length_nil, List.drop_zero, List.take_succ_cons, List.take_zero, Nat.one_ne_zero, Nat.zero_add, Int.toNat_natCast]
      repeat (refine ⟨by omega, ?_⟩)
      refine hK _ ?_
      clear hK K
      refine W.region tt_ok ?_
      simp only [exOps_nil, exOps_cons, exOp_eq, nx_eq, cur_eq, stepQ, ev, ofV, lk, putT, erA, inB, opt, bnd, req, ret, onQ, ap, binG, binF, intF, thn_normal, true_and, and_self, Nat.reduceEqDiff, Nat.reduceLT, Nat.reduceAdd, if_true, if_false, reduceCtorEq, wrap_up (k + 1) (by omega)]
      refine hK3 _ (k + 1 + 1) 1184 1000 (by omega) (by omega) ⟨⟨by simp [Nm, lk], by simp [Nm, lk]⟩, by simp, by simp⟩ ?_
      rw [List.take_of_length_le (by omega)]
      have hC : lowL xs v (k + 1 + 1) = lowL xs v (k + 1) ++ [IntKind.u8.wrap (v.fdiv (2 ^ min (8 * (k + 1)) IntKind.u64.bits))] := rfl
      simp only [lowI, hC]
      simp [Nat.add_assoc, St.swap, tmMap, enMap, swp, AV.map, Ent.map, Row.map, wk, leL, lk, nmT, nmE, nmH, AV.nmIn, Ent.nmIn, Row.nmIn]
    · have hk7 : k = 7 := by omega
      subst hk7
      have c1 : ¬ ((7 + 1 : Nat) : Int) < 8 := by omega
      refine W.seqK fun K hK => W.regionK tt_ok ?_
      simp only [decide_false, exOps_nil, exOps_cons, exOp_eq, nx_eq, cur_eq, stepQ, ev, ofV, lk, putT, erA, inB, opt, bnd, req, ret, onQ, ap, binG, binF, intF, true_and, and_self, Nat.reduceEqDiff, Nat.reduceLT, Nat.reduceAdd, if_true, if_false, reduceCtorEq, c1]
      refine hK _ ?_
      clear hK K
      refine W.seqK fun K hK => ?_
      refine W.cond (b := false) (by simp only [ev, lk, Nat.reduceEqDiff, if_true, if_false, reduceCtorEq]) (fun h => absurd h (by simp)) (fun _ => W.exit ?_)
      simp only [thn_normal, thn_exit, inb_exit, if_true]
      refine hKz _ ?_
      refine W.seqK fun K hK => W.regionK tt_ok ?_
      simp only [exOps_nil, exOps_cons, exOp_eq, nx_eq, cur_eq, stepQ, ev, lk, putT, erA, inB, opt, ret, onQ, ap, true_and, Nat.reduceEqDiff, Nat.reduceLT, Nat.reduceAdd, if_true, if_false, reduceCtorEq]
      refine hK _ ?_
      clear hK K
      refine W.ret ?_
      simp only [fin_ret, finB, resQ, resV, leL, AV.nmIn, entsIn, lk, opt, bnd, req, ret, onQ, AV.isTup, and_true, true_and, and_self, Nat.reduceEqDiff, if_true, if_false, reduceCtorEq]
      simp [Nm, lk, Ent.nmIn, Row.nmIn]
def lowJ (v : Int) (k : Nat) : St :=
  match k with
  | 0 => ⟨[(0, .nils), (1, .int .u64 v), (6, .int .i64 (0 : Nat))], [], 1024, 19⟩
  | k + 1 => ⟨[(0, .sl 1000 1 0 ((k + 1))), (1, .int .u64 v), (6, .int .i64 ((k + 1 : Nat) : Int))], [(1000, .vec 5 (.ints .u8 (lowL [] v (k + 1))))], 1024, 19⟩
theorem low_nil (v : Int) :
    FnR Tryd.prog G 21 [.nils, .int .u64 v] [] (.sl 1000 1 0 (8)) [(1000, .vec 5 (.ints .u8 (lowL [] v 8)))] := by
  refine FnR.of_walk (m := 19) (n0 := 0) tt_ok Tryd.func21 rfl rfl (by simp) (by simp [nmH]) ?_
  rw [show Tryd.f21.results.toList = [.tmp 4] from rfl]
  refine W.seqK fun K hK => W.regionK tt_ok ?_
  simp only [exOps_nil, exOps_cons, exOp_eq, nx_eq, cur_eq, stepQ, ev, ofV, parT, putT, erA, inB, opt, ret, onQ, ap, true_and, Nat.reduceEqDiff, Nat.reduceLT, Nat.zero_add, if_false, reduceCtorEq]
  refine hK _ ?_
  clear hK K
  refine W.seqK fun Kz hKz => ?_
  refine W.seqK fun K hK => W.regionK tt_ok ?_
  simp only [exOps_nil, exOps_cons, exOp_eq, nx_eq, cur_eq, stepQ, ev, ofV, putT, erA, inB, opt, ret, onQ, ap, true_and, Nat.reduceEqDiff, Nat.reduceLT, Nat.reduceAdd, if_false, reduceCtorEq]
  refine hK _ ?_
  clear hK K
  refine W.blockK ?_
  refine W.loopS (fun k : Nat => k ≤ 8) (lowJ v) (fun k => 8 - k) 0 (by simp) (by simp [lowJ, wk, leL, lk, nmT, nmE, nmH, AV.nmIn]) ?_
  intro k hk K3 hK3
  match k, hk with
  | 0, hk =>
    simp only [lowJ]
    by_cases hk8 : 0 < 8
    · have c1 : ((0 : Nat) : Int) < 8 := by omega
      have w8 := wrap8k (0) (by omega)
      have hL : (lowL [] v 0).length = 0 := rfl
      refine W.seqK fun K hK => W.regionK tt_ok ?_
      simp only [decide_true, exOps_nil, exOps_cons, exOp_eq, nx_eq, cur_eq, stepQ, ev, ofV, lk, putT, erA, inB, opt, bnd, req, ret, onQ, ap, binG, binF, intF, true_and, and_self, Nat.reduceEqDiff, Nat.reduceLT, Nat.reduceAdd, if_true, if_false, reduceCtorEq, c1]
      refine hK _ ?_
      clear hK K
      refine W.seqK fun K hK => ?_
      refine W.cond (b := true) (by simp only [ev, lk, Nat.reduceEqDiff, if_true, if_false, reduceCtorEq]) (fun _ => W.skip ?_) (fun h => absurd h (by simp))
      rw [thn_normal]
      refine hK _ ?_
      clear hK K
      refine W.seqK fun K hK => W.blockK ?_
      refine W.seqK fun K hK => W.regionK tt_ok ?_
      simp only [exOps_nil, exOps_cons, exOp_eq, nx_eq, cur_eq, stepQ, ev, lk, putT, erA, inB, opt, ret, onQ, ap, true_and, Nat.reduceEqDiff, Nat.reduceLT, Nat.reduceAdd, if_true, if_false, reduceCtorEq]
      refine hK _ ?_
      clear hK K
      refine W.region tt_ok ?_
      simp only [exOps_nil, exOps_cons, exOp_eq, exCall_eq, nx_eq, cur_eq, curV_eq, evL, evP, stepQ, ev, ofV, lk, putT, erA, inB, opt, bnd, req, ret, onQ, ap, up, er, AV.isTup, AV.isAgg, binG, binF, intF, shiftF, intsOf, Kd.agg, comps, szL, csize, takeC, dropC, stC, stS, bltQ, bltV, cvQ, appQ, appV, srcQ, Row.len, Row.sz, Row.take, Row.drop, Ent.row, Row.lst, bldA, bslQ, zeroCs, cellsRow, thn_normal, inb_normal, and_true, true_and, and_self, and_false, Nat.reduceEqDiff, Nat.reduceLT, Nat.reduceLeDiff, Nat.reduceAdd, Nat.reduceSub, Nat.reduceMul, Nat.sub_self, Int.toNat_natCast, Nat.le_refl, Nat.add_zero, Nat.zero_add, if_true, if_false, Bool.false_eq_true, reduceCtorEq, ne_eq, not_false_eq_true, Option.bind_some, Option.map_some, List.append_nil, List.nil_append, List.cons_append, tt_5, tt_23, tt_24, w8, List.replicate_succ, List.replicate_zero, List.set_cons_zero, List.length_cons, List.length_nil, List.drop_zero, List.take_succ_cons, List.take_zero, Nat.one_ne_zero, Nat.zero_add, Int.toNat_natCast]
      repeat (refine ⟨by omega, ?_⟩)
      refine Or.inl ?_
      refine hK _ ?_
      clear hK K
      refine W.region tt_ok ?_
      simp only [exOps_nil, exOps_cons, exOp_eq, nx_eq, cur_eq, stepQ, ev, ofV, lk, putT, erA, inB, opt, bnd, req, ret, onQ, ap, binG, binF, intF, thn_normal, true_and, and_self, Nat.reduceEqDiff, Nat.reduceLT, Nat.reduceAdd, Nat.zero_add, if_true, if_false, reduceCtorEq, wrap_up (0) (by omega)]
      refine hK3 _ (0 + 1) 1184 1000 (by omega) (by omega) ⟨⟨by simp [Nm, lk], by simp [Nm, lk]⟩, by simp, by simp⟩ ?_
      simp [lowJ, lowL, St.swap, tmMap, enMap, swp, AV.map, Ent.map, Row.map, wk, leL, lk, nmT, nmE, nmH, AV.nmIn, Ent.nmIn, Row.nmIn]
    · omega
  | k + 1, hk =>
    simp only [lowJ]
    by_cases hk8 : k + 1 < 8
    · have c1 : ((k + 1 : Nat) : Int) < 8 := by omega
      have w8 := wrap8k (k + 1) (by omega)
      have hL := (show (lowL [] v (k + 1)).length = k + 1 by simp [lowL_len])
      refine W.seqK fun K hK => W.regionK tt_ok ?_
      simp only [decide_true, exOps_nil, exOps_cons, exOp_eq, nx_eq, cur_eq, stepQ, ev, ofV, lk, putT, erA, inB, opt, bnd, req, ret, onQ, ap, binG, binF, intF, true_and, and_self, Nat.reduceEqDiff, Nat.reduceLT, Nat.reduceAdd, if_true, if_false, reduceCtorEq, c1]
      refine hK _ ?_
      clear hK K
      refine W.seqK fun K hK => ?_
      refine W.cond (b := true) (by simp only [ev, lk, Nat.reduceEqDiff, if_true, if_false, reduceCtorEq]) (fun _ => W.skip ?_) (fun h => absurd h (by simp))
      rw [thn_normal]
      refine hK _ ?_
      clear hK K
      refine W.seqK fun K hK => W.blockK ?_
      refine W.seqK fun K hK => W.regionK tt_ok ?_
      simp only [exOps_nil, exOps_cons, exOp_eq, nx_eq, cur_eq, stepQ, ev, lk, putT, erA, inB, opt, ret, onQ, ap, true_and, Nat.reduceEqDiff, Nat.reduceLT, Nat.reduceAdd, if_true, if_false, reduceCtorEq]
      refine hK _ ?_
      clear hK K
      refine W.region tt_ok ?_
      simp only [exOps_nil, exOps_cons, exOp_eq, exCall_eq, nx_eq, cur_eq, evL, evP, stepQ, ev, ofV, lk, putT, erA, inB, opt, bnd, req, ret, onQ, ap, up, er, AV.isTup, AV.isAgg, binG, binF, intF, shiftF, intsOf, Kd.agg, comps, szL, csize, takeC, dropC, stC, stS, bltQ, bltV, cvQ, appQ, appV, srcQ, Row.len, Row.sz, Row.take, Row.drop, Row.app, Ent.row, bldA, bslQ, zeroCs, cellsRow, thn_normal, inb_normal, and_true, true_and, and_self, and_false, or_false, Nat.reduceEqDiff, Nat.reduceLT, Nat.reduceLeDiff, Nat.reduceAdd, Nat.reduceSub, Nat.reduceMul, Nat.sub_self, Int.toNat_natCast, Nat.le_refl, Nat.add_zero, Nat.zero_add, if_true, if_false, Bool.false_eq_true, reduceCtorEq, Option.bind_some, Option.map_some, List.append_nil, List.nil_append, List.cons_append, tt_5, tt_23, tt_24, w8, hL, List.replicate_succ, List.replicate_zero, List.set_cons_zero, List.length_cons, List.length_nil, List.drop_zero, List.take_succ_cons, List.take_zero, Nat.one_ne_zero, Nat.zero_add, Int.toNat_natCast]
      repeat (refine ⟨by omega, ?_⟩)
      refine hK _ ?_
      clear hK K
      refine W.region tt_ok ?_
      simp only [exOps_nil, exOps_cons, exOp_eq, nx_eq, cur_eq, stepQ, ev, ofV, lk, putT, erA, inB, opt, bnd, req, ret, onQ, ap, binG, binF, intF, thn_normal, true_and, and_self, Nat.reduceEqDiff, Nat.reduceLT, Nat.reduceAdd, if_true, if_false, reduceCtorEq, wrap_up (k + 1) (by omega)]
      refine hK3 _ (k + 1 + 1) 1184 1000 (by omega) (by omega) ⟨⟨by simp [Nm, lk], by simp [Nm, lk]⟩, by simp, by simp⟩ ?_
      rw [List.take_of_length_le (by omega)]
      have hC : lowL [] v (k + 1 + 1) = lowL [] v (k + 1) ++ [IntKind.u8.wrap (v.fdiv (2 ^ min (8 * (k + 1)) IntKind.u64.bits))] := rfl
      simp only [lowJ, hC]
      simp [Nat.add_assoc, St.swap, tmMap, enMap, swp, AV.map, Ent.map, Row.map, wk, leL, lk, nmT, nmE, nmH, AV.nmIn, Ent.nmIn, Row.nmIn]
    · have hk7 : k = 7 := by omega
      subst hk7
      have c1 : ¬ ((7 + 1 : Nat) : Int) < 8 := by omega
      refine W.seqK fun K hK => W.regionK tt_ok ?_
      simp only [decide_false, exOps_nil, exOps_cons, exOp_eq, nx_eq, cur_eq, stepQ, ev, ofV, lk, putT, erA, inB, opt, bnd, req, ret, onQ, ap, binG, binF, intF, true_and, and_self, Nat.reduceEqDiff, Nat.reduceLT, Nat.reduceAdd, if_true, if_false, reduceCtorEq, c1]
      refine hK _ ?_
      clear hK K
      refine W.seqK fun K hK => ?_
      refine W.cond (b := false) (by simp only [ev, lk, Nat.reduceEqDiff, if_true, if_false, reduceCtorEq]) (fun h => absurd h (by simp)) (fun _ => W.exit ?_)
      simp only [thn_normal, thn_exit, inb_exit, if_true]
      refine hKz _ ?_
      refine W.seqK fun K hK => W.regionK tt_ok ?_
      simp only [exOps_nil, exOps_cons, exOp_eq, nx_eq, cur_eq, stepQ, ev, lk, putT, erA, inB, opt, ret, onQ, ap, true_and, Nat.reduceEqDiff, Nat.reduceLT, Nat.reduceAdd, if_true, if_false, reduceCtorEq]
      refine hK _ ?_
      clear hK K
      refine W.ret ?_
      simp only [fin_ret, finB, resQ, resV, leL, AV.nmIn, entsIn, lk, opt, bnd, req, ret, onQ, AV.isTup, and_true, true_and, and_self, Nat.reduceEqDiff, if_true, if_false, reduceCtorEq]
      simp [Nm, lk, Ent.nmIn, Row.nmIn]

theorem low_at (X Y n : Nat) (xs : List Int) (v : Int) (hn : n = xs.length) (hx : xs.length ≤ 1000000) (h1 : X ≠ 1 ∧ X ≠ 1000 ∧ Y ≠ 1 ∧ Y ≠ 1000 ∧ X ≠ Y) :
    FnR Tryd.prog G 21 [.sl X 1 0 n, .int .u64 v] [(X, .vec 5 (.ints .u8 xs))] (.sl Y 1 0 (n + 8)) [(Y, .vec 5 (.ints .u8 (lowL xs v 8)))] := by
  subst hn
  have h := ((low_own xs v hx).swap 1 X).swap 1000 Y
  have e1 : swp 1000 Y (swp 1 X 1) = X := by simp [swp, h1]
  have e2 : swp 1000 Y (swp 1 X 1000) = Y := by simp [swp, Ne.symm h1.2.1]
  simpa only [List.map_cons, List.map_nil, AV.map, enMap, List.map, Ent.map, Row.map, e1, e2] using h
theorem lowNil_at (Y : Nat) (v : Int) : FnR Tryd.prog G 21 [.nils, .int .u64 v] [] (.sl Y 1 0 8) [(Y, .vec 5 (.ints .u8 (lowL [] v 8)))] := by
  have h := (low_nil v).rename 1000 Y
  simpa [AV.map, swp, enMap, Ent.map, Row.map] using h
end Go.Proofs.YtakgcmponelbeaaDoor
