/- Chains: Next. -/
import Derived.Test.YtbefcdgjainflaaHdC
-- TT 3 4 5 9 23 25 28 29 30 36 39 50 53 54 55 56 58 82 94
-- KIND 12 12 10 3
-- HIGH 12 12 8
-- HIGH 12 12 9
-- SIMP beq_self_eq_true
set_option linter.unusedVariables false
set_option linter.unusedSectionVars false
set_option linter.unusedSimpArgs false
namespace Go.Proofs.Ytbefcdgjainflaa
open Sx
variable [Inhabited Tabs]
set_option maxRecDepth 100000
set_option maxHeartbeats 4000000
def sNext : ByteArray := { data := #[110, 101, 120, 116] }
def cV (k : ByteArray) (n : Int) : AV := .agg [.str k, .int .i64 n]
theorem next_nil (k : ByteArray) (n : Int) : FnR Try.prog G 12 [.nili, cV k n] [] (.tup [cV k n, .str eS, .int .i64 1]) [] := by
  rw [cV]
  refine FnR.of_walk (m := 45) (n0 := 16) tt_ok Try.func12 rfl rfl (by simp) (by simp [nmH]) ?_
  rw [show Try.f12.results.toList = [.cell 4 23, .tmp 5, .tmp 6] from rfl]
  refine W.seqK fun K hK => W.regionK tt_ok ?_
  simp only [exOps_nil, exOps_cons, exOp_eq, nx_eq, cur_eq, stepQ, ev, ofV, lk, parT, putT, erA, inB, opt, req, ret, onQ, ap, up, er, AV.isTup, true_and, and_self, Nat.reduceEqDiff, Nat.reduceLT, Nat.reduceAdd, Nat.zero_add, if_true, if_false, reduceCtorEq, tt_23]
  refine hK _ ?_
  clear hK K
  refine W.seqK fun Kb hKb => ?_
  refine W.blockK ?_
  refine W.seqK fun K hK => W.regionK tt_ok ?_
  simp only [exOps_nil, exOps_cons, exOp_eq, nx_eq, cur_eq, stepQ, ev, ofV, lk, putT, erA, inB, opt, bnd, req, ret, onQ, ap, binI, eqOp, true_and, and_self, Nat.reduceEqDiff, Nat.reduceLT, Nat.reduceAdd, if_true, if_false, reduceCtorEq, tt_28]
  refine hK _ ?_
  clear hK K
  refine W.cond (b := true) (by simp only [ev, lk, Nat.reduceEqDiff, if_true, if_false, reduceCtorEq]) (fun _ => ?_) (fun h => absurd h (by simp))
  refine W.seqK fun K hK => W.regionK tt_ok ?_
  simp only [exOps_nil, exOps_cons, exOp_eq, nx_eq, cur_eq, stepQ, ev, ofV, lk, putT, erA, inB, opt, bnd, req, ret, onQ, ap, up, er, AV.isTup, AV.isAgg, ldP, ldE, ldC, ldS, Kd.agg, comps, szL, csize, takeI, takeC, dropC, stP, stE, stC, stS, and_true, true_and, and_self, Nat.reduceEqDiff, Nat.reduceLT, Nat.reduceLeDiff, Nat.reduceAdd, Nat.reduceSub, Nat.sub_self, Nat.le_refl, Nat.add_zero, Nat.zero_add, if_true, if_false, reduceCtorEq, Option.bind_some, Option.map_some, List.append_nil, List.nil_append, tt_23]
  refine hK _ ?_
  clear hK K
  refine W.ret ?_
  simp only [fin_ret, finB, resQ, resV, leL, AV.nmIn, AV.nmInL, entsIn, lk, opt, bnd, req, ret, onQ, AV.isTup, ldP, ldE, ldC, ldS, Kd.agg, comps, csize, takeI, takeC, dropC, thn_ret, inb_ret, and_true, true_and, and_self, Nat.reduceEqDiff, Nat.reduceLeDiff, Nat.reduceSub, Nat.sub_self, Nat.le_refl, if_true, if_false, reduceCtorEq, Option.bind_some, Option.map_some, tt_23]
  simp [eS]
theorem rnext_arg (k : ByteArray) (n : Int) (hn : n < 0) : FnR Try.prog G 12 [.ifc 53 (.agg []), cV k n] [] (.tup [cV k n, .str eS, .int .i64 2]) [] := by
  rw [cV]
  refine FnR.of_walk (m := 45) (n0 := 16) tt_ok Try.func12 rfl rfl (by simp) (by simp [nmH]) ?_
  rw [show Try.f12.results.toList = [.cell 4 23, .tmp 5, .tmp 6] from rfl]
  refine W.seqK fun K hK => W.regionK tt_ok ?_
  simp only [exOps_nil, exOps_cons, exOp_eq, nx_eq, cur_eq, stepQ, ev, ofV, lk, parT, putT, erA, inB, opt, req, ret, onQ, ap, up, er, AV.isTup, true_and, and_self, Nat.reduceEqDiff, Nat.reduceLT, Nat.reduceAdd, Nat.zero_add, if_true, if_false, reduceCtorEq, tt_23]
  refine hK _ ?_
  clear hK K
  refine W.seqK fun Kb hKb => ?_
  refine W.blockK ?_
  refine W.seqK fun K hK => W.regionK tt_ok ?_
  simp only [exOps_nil, exOps_cons, exOp_eq, nx_eq, cur_eq, stepQ, ev, ofV, lk, putT, erA, inB, opt, bnd, req, ret, onQ, ap, binI, binG, eqOp, true_and, and_self, Nat.reduceEqDiff, Nat.reduceLT, Nat.reduceAdd, if_true, if_false, reduceCtorEq, tt_28]
  refine hK _ ?_
  clear hK K
  refine W.cond (b := false) (by simp only [ev, lk, Nat.reduceEqDiff, if_true, if_false, reduceCtorEq]) (fun h => absurd h (by simp)) (fun _ => ?_)
  refine W.seqK fun K hK => W.regionK tt_ok ?_
  simp only [decide_true, exOps_nil, exOps_cons, exOp_eq, nx_eq, cur_eq, stepQ, ev, ofV, lk, putT, erA, inB, opt, bnd, req, ret, onQ, ap, binI, binG, binF, intF, ldP, ldE, ldC, ldS, Kd.agg, comps, csize, takeI, takeC, dropC, fldF, true_and, and_self, Nat.reduceEqDiff, Nat.reduceLT, Nat.reduceLeDiff, Nat.reduceAdd, Nat.reduceSub, Nat.sub_self, Nat.le_refl, Nat.zero_add, if_true, if_false, Bool.false_eq_true, reduceCtorEq, ne_eq, not_false_eq_true, List.getElem?_cons_zero, List.getElem?_cons_succ, Option.bind_some, Option.map_some, tt_3, tt_23, hn]
  refine hK _ ?_
  clear hK K
  refine W.cond (b := true) (by simp only [ev, lk, Nat.reduceEqDiff, if_true, if_false, reduceCtorEq]) (fun _ => ?_) (fun h => absurd h (by simp))
  refine W.seqK fun K hK => W.regionK tt_ok ?_
  simp only [exOps_nil, exOps_cons, exOp_eq, nx_eq, cur_eq, stepQ, ev, ofV, lk, putT, erA, inB, opt, bnd, req, ret, onQ, ap, up, er, AV.isTup, AV.isAgg, ldP, ldE, ldC, ldS, Kd.agg, comps, szL, csize, takeI, takeC, dropC, stP, stE, stC, stS, and_true, true_and, and_self, Nat.reduceEqDiff, Nat.reduceLT, Nat.reduceLeDiff, Nat.reduceAdd, Nat.reduceSub, Nat.sub_self, Nat.le_refl, Nat.add_zero, Nat.zero_add, if_true, if_false, reduceCtorEq, Option.bind_some, Option.map_some, List.append_nil, List.nil_append, tt_23]
  refine hK _ ?_
  clear hK K
  refine W.ret ?_
  simp only [fin_ret, finB, resQ, resV, leL, AV.nmIn, AV.nmInL, entsIn, lk, opt, bnd, req, ret, onQ, AV.isTup, ldP, ldE, ldC, ldS, Kd.agg, comps, csize, takeI, takeC, dropC, thn_ret, inb_ret, and_true, true_and, and_self, Nat.reduceEqDiff, Nat.reduceLeDiff, Nat.reduceSub, Nat.sub_self, Nat.le_refl, if_true, if_false, reduceCtorEq, Option.bind_some, Option.map_some, tt_23]
  simp [eS]
theorem rnext_end (k : ByteArray) (n : Int) (hn : 1000 ≤ n) : FnR Try.prog G 12 [.ifc 53 (.agg []), cV k n] [] (.tup [cV k n, .str eS, .int .i64 12]) [] := by
  have h0 : ¬ n < 0 := by omega
  rw [cV]
  refine FnR.of_walk (m := 45) (n0 := 16) tt_ok Try.func12 rfl rfl (by simp) (by simp [nmH]) ?_
  rw [show Try.f12.results.toList = [.cell 4 23, .tmp 5, .tmp 6] from rfl]
  refine W.seqK fun K hK => W.regionK tt_ok ?_
  simp only [exOps_nil, exOps_cons, exOp_eq, nx_eq, cur_eq, stepQ, ev, ofV, lk, parT, putT, erA, inB, opt, req, ret, onQ, ap, up, er, AV.isTup, true_and, and_self, Nat.reduceEqDiff, Nat.reduceLT, Nat.reduceAdd, Nat.zero_add, if_true, if_false, reduceCtorEq, tt_23]
  refine hK _ ?_
  clear hK K
  refine W.seqK fun Kb hKb => ?_
  refine W.blockK ?_
  refine W.seqK fun K hK => W.regionK tt_ok ?_
  simp only [exOps_nil, exOps_cons, exOp_eq, nx_eq, cur_eq, stepQ, ev, ofV, lk, putT, erA, inB, opt, bnd, req, ret, onQ, ap, binI, binG, eqOp, true_and, and_self, Nat.reduceEqDiff, Nat.reduceLT, Nat.reduceAdd, if_true, if_false, reduceCtorEq, tt_28]
  refine hK _ ?_
  clear hK K
  refine W.cond (b := false) (by simp only [ev, lk, Nat.reduceEqDiff, if_true, if_false, reduceCtorEq]) (fun h => absurd h (by simp)) (fun _ => ?_)
  refine W.seqK fun K hK => W.regionK tt_ok ?_
  simp only [decide_false, exOps_nil, exOps_cons, exOp_eq, nx_eq, cur_eq, stepQ, ev, ofV, lk, putT, erA, inB, opt, bnd, req, ret, onQ, ap, binI, binG, binF, intF, ldP, ldE, ldC, ldS, Kd.agg, comps, csize, takeI, takeC, dropC, fldF, true_and, and_self, Nat.reduceEqDiff, Nat.reduceLT, Nat.reduceLeDiff, Nat.reduceAdd, Nat.reduceSub, Nat.sub_self, Nat.le_refl, Nat.zero_add, if_true, if_false, Bool.false_eq_true, reduceCtorEq, ne_eq, not_false_eq_true, List.getElem?_cons_zero, List.getElem?_cons_succ, Option.bind_some, Option.map_some, tt_3, tt_23, h0]
  refine hK _ ?_
  clear hK K
  refine W.cond (b := false) (by simp only [ev, lk, Nat.reduceEqDiff, if_true, if_false, reduceCtorEq]) (fun h => absurd h (by simp)) (fun _ => ?_)
  refine W.seqK fun K hK => W.regionK tt_ok ?_
  simp only [decide_true, exOps_nil, exOps_cons, exOp_eq, nx_eq, cur_eq, stepQ, ev, ofV, lk, putT, erA, inB, opt, bnd, req, ret, onQ, ap, binI, binG, binF, intF, ldP, ldE, ldC, ldS, Kd.agg, comps, csize, takeI, takeC, dropC, fldF, true_and, and_self, Nat.reduceEqDiff, Nat.reduceLT, Nat.reduceLeDiff, Nat.reduceAdd, Nat.reduceSub, Nat.sub_self, Nat.le_refl, Nat.zero_add, if_true, if_false, Bool.false_eq_true, reduceCtorEq, ne_eq, not_false_eq_true, List.getElem?_cons_zero, List.getElem?_cons_succ, Option.bind_some, Option.map_some, tt_3, tt_23, hn]
  refine hK _ ?_
  clear hK K
  refine W.cond (b := true) (by simp only [ev, lk, Nat.reduceEqDiff, if_true, if_false, reduceCtorEq]) (fun _ => ?_) (fun h => absurd h (by simp))
  refine W.seqK fun K hK => W.regionK tt_ok ?_
  simp only [exOps_nil, exOps_cons, exOp_eq, nx_eq, cur_eq, stepQ, ev, ofV, lk, putT, erA, inB, opt, bnd, req, ret, onQ, ap, up, er, AV.isTup, AV.isAgg, ldP, ldE, ldC, ldS, Kd.agg, comps, szL, csize, takeI, takeC, dropC, stP, stE, stC, stS, and_true, true_and, and_self, Nat.reduceEqDiff, Nat.reduceLT, Nat.reduceLeDiff, Nat.reduceAdd, Nat.reduceSub, Nat.sub_self, Nat.le_refl, Nat.add_zero, Nat.zero_add, if_true, if_false, reduceCtorEq, Option.bind_some, Option.map_some, List.append_nil, List.nil_append, tt_23]
  refine hK _ ?_
  clear hK K
  refine W.ret ?_
  simp only [fin_ret, finB, resQ, resV, leL, AV.nmIn, AV.nmInL, entsIn, lk, opt, bnd, req, ret, onQ, AV.isTup, ldP, ldE, ldC, ldS, Kd.agg, comps, csize, takeI, takeC, dropC, thn_ret, inb_ret, and_true, true_and, and_self, Nat.reduceEqDiff, Nat.reduceLeDiff, Nat.reduceSub, Nat.sub_self, Nat.le_refl, if_true, if_false, reduceCtorEq, Option.bind_some, Option.map_some, tt_23]
  simp [eS]
theorem rnext_key (n : Int) (h1 : 0 ≤ n) (h2 : n < 1000) : FnR Try.prog G 12 [.ifc 53 (.agg []), cV eS n] [] (.tup [cV eS n, .str eS, .int .i64 6]) [] := by
  have h0 : ¬ n < 0 := by omega
  have h3 : ¬ 1000 ≤ n := by omega
  rw [cV]
  refine FnR.of_walk (m := 45) (n0 := 16) tt_ok Try.func12 rfl rfl (by simp) (by simp [nmH]) ?_
  rw [show Try.f12.results.toList = [.cell 4 23, .tmp 5, .tmp 6] from rfl]
  refine W.seqK fun K hK => W.regionK tt_ok ?_
  simp only [exOps_nil, exOps_cons, exOp_eq, nx_eq, cur_eq, stepQ, ev, ofV, lk, parT, putT, erA, inB, opt, req, ret, onQ, ap, up, er, AV.isTup, true_and, and_self, Nat.reduceEqDiff, Nat.reduceLT, Nat.reduceAdd, Nat.zero_add, if_true, if_false, reduceCtorEq, tt_23]
  refine hK _ ?_
  clear hK K
  refine W.seqK fun Kb hKb => ?_
  refine W.blockK ?_
  refine W.seqK fun K hK => W.regionK tt_ok ?_
  simp only [exOps_nil, exOps_cons, exOp_eq, nx_eq, cur_eq, stepQ, ev, ofV, lk, putT, erA, inB, opt, bnd, req, ret, onQ, ap, binI, binG, eqOp, true_and, and_self, Nat.reduceEqDiff, Nat.reduceLT, Nat.reduceAdd, if_true, if_false, reduceCtorEq, tt_28]
  refine hK _ ?_
  clear hK K
  refine W.cond (b := false) (by simp only [ev, lk, Nat.reduceEqDiff, if_true, if_false, reduceCtorEq]) (fun h => absurd h (by simp)) (fun _ => ?_)
  refine W.seqK fun K hK => W.regionK tt_ok ?_
  simp only [decide_false, exOps_nil, exOps_cons, exOp_eq, nx_eq, cur_eq, stepQ, ev, ofV, lk, putT, erA, inB, opt, bnd, req, ret, onQ, ap, binI, binG, binF, intF, ldP, ldE, ldC, ldS, Kd.agg, comps, csize, takeI, takeC, dropC, fldF, true_and, and_self, Nat.reduceEqDiff, Nat.reduceLT, Nat.reduceLeDiff, Nat.reduceAdd, Nat.reduceSub, Nat.sub_self, Nat.le_refl, Nat.zero_add, if_true, if_false, Bool.false_eq_true, reduceCtorEq, ne_eq, not_false_eq_true, List.getElem?_cons_zero, List.getElem?_cons_succ, Option.bind_some, Option.map_some, tt_3, tt_23, h0]
  refine hK _ ?_
  clear hK K
  refine W.cond (b := false) (by simp only [ev, lk, Nat.reduceEqDiff, if_true, if_false, reduceCtorEq]) (fun h => absurd h (by simp)) (fun _ => ?_)
  refine W.seqK fun K hK => W.regionK tt_ok ?_
  simp only [decide_false, exOps_nil, exOps_cons, exOp_eq, nx_eq, cur_eq, stepQ, ev, ofV, lk, putT, erA, inB, opt, bnd, req, ret, onQ, ap, binI, binG, binF, intF, ldP, ldE, ldC, ldS, Kd.agg, comps, csize, takeI, takeC, dropC, fldF, true_and, and_self, Nat.reduceEqDiff, Nat.reduceLT, Nat.reduceLeDiff, Nat.reduceAdd, Nat.reduceSub, Nat.sub_self, Nat.le_refl, Nat.zero_add, if_true, if_false, Bool.false_eq_true, reduceCtorEq, ne_eq, not_false_eq_true, List.getElem?_cons_zero, List.getElem?_cons_succ, Option.bind_some, Option.map_some, tt_3, tt_23, h3]
  refine hK _ ?_
  clear hK K
  refine W.cond (b := false) (by simp only [ev, lk, Nat.reduceEqDiff, if_true, if_false, reduceCtorEq]) (fun h => absurd h (by simp)) (fun _ => ?_)
  refine W.seqK fun K hK => W.regionK tt_ok ?_
  simp only [exOps_nil, exOps_cons, exOp_eq, nx_eq, cur_eq, stepQ, ev, ofV, lk, putT, erA, inB, opt, bnd, req, ret, onQ, ap, binI, binG, binF, strF, ldP, ldE, ldC, ldS, Kd.agg, comps, csize, takeI, takeC, dropC, fldF, true_and, and_self, Nat.reduceEqDiff, Nat.reduceLT, Nat.reduceLeDiff, Nat.reduceAdd, Nat.reduceSub, Nat.sub_self, Nat.le_refl, Nat.add_zero, if_true, if_false, Bool.false_eq_true, reduceCtorEq, ne_eq, not_false_eq_true, List.getElem?_cons_zero, Option.bind_some, Option.map_some, tt_9, tt_23, beq_self_eq_true, eS, beq_self_eq_true]
  refine hK _ ?_
  clear hK K
  refine W.cond (b := true) (by simp only [ev, lk, Nat.reduceEqDiff, if_true, if_false, reduceCtorEq]) (fun _ => ?_) (fun h => absurd h (by simp))
  refine W.seqK fun K hK => W.regionK tt_ok ?_
  simp only [exOps_nil, exOps_cons, exOp_eq, nx_eq, cur_eq, stepQ, ev, ofV, lk, putT, erA, inB, opt, bnd, req, ret, onQ, ap, up, er, AV.isTup, AV.isAgg, ldP, ldE, ldC, ldS, Kd.agg, comps, szL, csize, takeI, takeC, dropC, stP, stE, stC, stS, and_true, true_and, and_self, Nat.reduceEqDiff, Nat.reduceLT, Nat.reduceLeDiff, Nat.reduceAdd, Nat.reduceSub, Nat.sub_self, Nat.le_refl, Nat.add_zero, Nat.zero_add, if_true, if_false, reduceCtorEq, Option.bind_some, Option.map_some, List.append_nil, List.nil_append, tt_23]
  refine hK _ ?_
  clear hK K
  refine W.ret ?_
  simp only [fin_ret, finB, resQ, resV, leL, AV.nmIn, AV.nmInL, entsIn, lk, opt, bnd, req, ret, onQ, AV.isTup, ldP, ldE, ldC, ldS, Kd.agg, comps, csize, takeI, takeC, dropC, thn_ret, inb_ret, and_true, true_and, and_self, Nat.reduceEqDiff, Nat.reduceLeDiff, Nat.reduceSub, Nat.sub_self, Nat.le_refl, if_true, if_false, reduceCtorEq, Option.bind_some, Option.map_some, tt_23]
  simp [eS]
theorem s0next_arg (k : ByteArray) (n : Int) (hn : n < 0) : FnR Try.prog G 12 [.ifc 55 (.agg [.ptr 0 0 0 1]), cV k n] [(0, .obj 58 (.agg [.mp 1, .mp 2, .nils])), (1, .mset (.strs [])), (2, .mset (.strs []))] (.tup [cV k n, .str eS, .int .i64 2]) [(0, .obj 58 (.agg [.mp 1, .mp 2, .nils])), (1, .mset (.strs [])), (2, .mset (.strs []))] := by
  rw [cV]
  refine FnR.of_walk (m := 45) (n0 := 16) tt_ok Try.func12 rfl rfl (by simp) (by simp [nmH]) ?_
  rw [show Try.f12.results.toList = [.cell 4 23, .tmp 5, .tmp 6] from rfl]
  refine W.seqK fun K hK => W.regionK tt_ok ?_
  simp only [exOps_nil, exOps_cons, exOp_eq, nx_eq, cur_eq, stepQ, ev, ofV, lk, parT, putT, erA, inB, opt, req, ret, onQ, ap, up, er, AV.isTup, true_and, and_self, Nat.reduceEqDiff, Nat.reduceLT, Nat.reduceAdd, Nat.zero_add, if_true, if_false, reduceCtorEq, tt_23]
  refine hK _ ?_
  clear hK K
  refine W.seqK fun Kb hKb => ?_
  refine W.blockK ?_
  refine W.seqK fun K hK => W.regionK tt_ok ?_
  simp only [exOps_nil, exOps_cons, exOp_eq, nx_eq, cur_eq, stepQ, ev, ofV, lk, putT, erA, inB, opt, bnd, req, ret, onQ, ap, binI, binG, eqOp, true_and, and_self, Nat.reduceEqDiff, Nat.reduceLT, Nat.reduceAdd, if_true, if_false, reduceCtorEq, tt_28]
  refine hK _ ?_
  clear hK K
  refine W.cond (b := false) (by simp only [ev, lk, Nat.reduceEqDiff, if_true, if_false, reduceCtorEq]) (fun h => absurd h (by simp)) (fun _ => ?_)
  refine W.seqK fun K hK => W.regionK tt_ok ?_
  simp only [decide_true, exOps_nil, exOps_cons, exOp_eq, nx_eq, cur_eq, stepQ, ev, ofV, lk, putT, erA, inB, opt, bnd, req, ret, onQ, ap, binI, binG, binF, intF, ldP, ldE, ldC, ldS, Kd.agg, comps, csize, takeI, takeC, dropC, fldF, true_and, and_self, Nat.reduceEqDiff, Nat.reduceLT, Nat.reduceLeDiff, Nat.reduceAdd, Nat.reduceSub, Nat.sub_self, Nat.le_refl, Nat.zero_add, if_true, if_false, Bool.false_eq_true, reduceCtorEq, ne_eq, not_false_eq_true, List.getElem?_cons_zero, List.getElem?_cons_succ, Option.bind_some, Option.map_some, tt_3, tt_23, hn]
  refine hK _ ?_
  clear hK K
  refine W.cond (b := true) (by simp only [ev, lk, Nat.reduceEqDiff, if_true, if_false, reduceCtorEq]) (fun _ => ?_) (fun h => absurd h (by simp))
  refine W.seqK fun K hK => W.regionK tt_ok ?_
  simp only [exOps_nil, exOps_cons, exOp_eq, nx_eq, cur_eq, stepQ, ev, ofV, lk, putT, erA, inB, opt, bnd, req, ret, onQ, ap, up, er, AV.isTup, AV.isAgg, ldP, ldE, ldC, ldS, Kd.agg, comps, szL, csize, takeI, takeC, dropC, stP, stE, stC, stS, and_true, true_and, and_self, Nat.reduceEqDiff, Nat.reduceLT, Nat.reduceLeDiff, Nat.reduceAdd, Nat.reduceSub, Nat.sub_self, Nat.le_refl, Nat.add_zero, Nat.zero_add, if_true, if_false, reduceCtorEq, Option.bind_some, Option.map_some, List.append_nil, List.nil_append, tt_23]
  refine hK _ ?_
  clear hK K
  refine W.ret ?_
  simp only [fin_ret, finB, resQ, resV, leL, AV.nmIn, AV.nmInL, entsIn, lk, opt, bnd, req, ret, onQ, AV.isTup, ldP, ldE, ldC, ldS, Kd.agg, comps, csize, takeI, takeC, dropC, thn_ret, inb_ret, and_true, true_and, and_self, Nat.reduceEqDiff, Nat.reduceLeDiff, Nat.reduceSub, Nat.sub_self, Nat.le_refl, if_true, if_false, reduceCtorEq, Option.bind_some, Option.map_some, tt_23]
  simp [eS, Nm, lk, Ent.nmIn, AV.nmIn, AV.nmInL]
theorem s0next_end (k : ByteArray) (n : Int) (hn : 1000 ≤ n) : FnR Try.prog G 12 [.ifc 55 (.agg [.ptr 0 0 0 1]), cV k n] [(0, .obj 58 (.agg [.mp 1, .mp 2, .nils])), (1, .mset (.strs [])), (2, .mset (.strs []))] (.tup [cV k n, .str eS, .int .i64 12]) [(0, .obj 58 (.agg [.mp 1, .mp 2, .nils])), (1, .mset (.strs [])), (2, .mset (.strs []))] := by
  have h0 : ¬ n < 0 := by omega
  rw [cV]
  refine FnR.of_walk (m := 45) (n0 := 16) tt_ok Try.func12 rfl rfl (by simp) (by simp [nmH]) ?_
  rw [show Try.f12.results.toList = [.cell 4 23, .tmp 5, .tmp 6] from rfl]
  refine W.seqK fun K hK => W.regionK tt_ok ?_
  simp only [exOps_nil, exOps_cons, exOp_eq, nx_eq, cur_eq, stepQ, ev, ofV, lk, parT, putT, erA, inB, opt, req, ret, onQ, ap, up, er, AV.isTup, true_and, and_self, Nat.reduceEqDiff, Nat.reduceLT, Nat.reduceAdd, Nat.zero_add, if_true, if_false, reduceCtorEq, tt_23]
  refine hK _ ?_
  clear hK K
  refine W.seqK fun Kb hKb => ?_
  refine W.blockK ?_
  refine W.seqK fun K hK => W.regionK tt_ok ?_
  simp only [exOps_nil, exOps_cons, exOp_eq, nx_eq, cur_eq, stepQ, ev, ofV, lk, putT, erA, inB, opt, bnd, req, ret, onQ, ap, binI, binG, eqOp, true_and, and_self, Nat.reduceEqDiff, Nat.reduceLT, Nat.reduceAdd, if_true, if_false, reduceCtorEq, tt_28]
  refine hK _ ?_
  clear hK K
  refine W.cond (b := false) (by simp only [ev, lk, Nat.reduceEqDiff, if_true, if_false, reduceCtorEq]) (fun h => absurd h (by simp)) (fun _ => ?_)
  refine W.seqK fun K hK => W.regionK tt_ok ?_
  simp only [decide_false, exOps_nil, exOps_cons, exOp_eq, nx_eq, cur_eq, stepQ, ev, ofV, lk, putT, erA, inB, opt, bnd, req, ret, onQ, ap, binI, binG, binF, intF, ldP, ldE, ldC, ldS, Kd.agg, comps, csize, takeI, takeC, dropC, fldF, true_and, and_self, Nat.reduceEqDiff, Nat.reduceLT, Nat.reduceLeDiff, Nat.reduceAdd, Nat.reduceSub, Nat.sub_self, Nat.le_refl, Nat.zero_add, if_true, if_false, Bool.false_eq_true, reduceCtorEq, ne_eq, not_false_eq_true, List.getElem?_cons_zero, List.getElem?_cons_succ, Option.bind_some, Option.map_some, tt_3, tt_23, h0]
  refine hK _ ?_
  clear hK K
  refine W.cond (b := false) (by simp only [ev, lk, Nat.reduceEqDiff, if_true, if_false, reduceCtorEq]) (fun h => absurd h (by simp)) (fun _ => ?_)
  refine W.seqK fun K hK => W.regionK tt_ok ?_
  simp only [decide_true, exOps_nil, exOps_cons, exOp_eq, nx_eq, cur_eq, stepQ, ev, ofV, lk, putT, erA, inB, opt, bnd, req, ret, onQ, ap, binI, binG, binF, intF, ldP, ldE, ldC, ldS, Kd.agg, comps, csize, takeI, takeC, dropC, fldF, true_and, and_self, Nat.reduceEqDiff, Nat.reduceLT, Nat.reduceLeDiff, Nat.reduceAdd, Nat.reduceSub, Nat.sub_self, Nat.le_refl, Nat.zero_add, if_true, if_false, Bool.false_eq_true, reduceCtorEq, ne_eq, not_false_eq_true, List.getElem?_cons_zero, List.getElem?_cons_succ, Option.bind_some, Option.map_some, tt_3, tt_23, hn]
  refine hK _ ?_
  clear hK K
  refine W.cond (b := true) (by simp only [ev, lk, Nat.reduceEqDiff, if_true, if_false, reduceCtorEq]) (fun _ => ?_) (fun h => absurd h (by simp))
  refine W.seqK fun K hK => W.regionK tt_ok ?_
  simp only [exOps_nil, exOps_cons, exOp_eq, nx_eq, cur_eq, stepQ, ev, ofV, lk, putT, erA, inB, opt, bnd, req, ret, onQ, ap, up, er, AV.isTup, AV.isAgg, ldP, ldE, ldC, ldS, Kd.agg, comps, szL, csize, takeI, takeC, dropC, stP, stE, stC, stS, and_true, true_and, and_self, Nat.reduceEqDiff, Nat.reduceLT, Nat.reduceLeDiff, Nat.reduceAdd, Nat.reduceSub, Nat.sub_self, Nat.le_refl, Nat.add_zero, Nat.zero_add, if_true, if_false, reduceCtorEq, Option.bind_some, Option.map_some, List.append_nil, List.nil_append, tt_23]
  refine hK _ ?_
  clear hK K
  refine W.ret ?_
  simp only [fin_ret, finB, resQ, resV, leL, AV.nmIn, AV.nmInL, entsIn, lk, opt, bnd, req, ret, onQ, AV.isTup, ldP, ldE, ldC, ldS, Kd.agg, comps, csize, takeI, takeC, dropC, thn_ret, inb_ret, and_true, true_and, and_self, Nat.reduceEqDiff, Nat.reduceLeDiff, Nat.reduceSub, Nat.sub_self, Nat.le_refl, if_true, if_false, reduceCtorEq, Option.bind_some, Option.map_some, tt_23]
  simp [eS, Nm, lk, Ent.nmIn, AV.nmIn, AV.nmInL]
theorem s0next_key (n : Int) (h1 : 0 ≤ n) (h2 : n < 1000) : FnR Try.prog G 12 [.ifc 55 (.agg [.ptr 0 0 0 1]), cV eS n] [(0, .obj 58 (.agg [.mp 1, .mp 2, .nils])), (1, .mset (.strs [])), (2, .mset (.strs []))] (.tup [cV eS n, .str eS, .int .i64 6]) [(0, .obj 58 (.agg [.mp 1, .mp 2, .nils])), (1, .mset (.strs [])), (2, .mset (.strs []))] := by
  have h0 : ¬ n < 0 := by omega
  have h3 : ¬ 1000 ≤ n := by omega
  rw [cV]
  refine FnR.of_walk (m := 45) (n0 := 16) tt_ok Try.func12 rfl rfl (by simp) (by simp [nmH]) ?_
  rw [show Try.f12.results.toList = [.cell 4 23, .tmp 5, .tmp 6] from rfl]
  refine W.seqK fun K hK => W.regionK tt_ok ?_
  simp only [exOps_nil, exOps_cons, exOp_eq, nx_eq, cur_eq, stepQ, ev, ofV, lk, parT, putT, erA, inB, opt, req, ret, onQ, ap, up, er, AV.isTup, true_and, and_self, Nat.reduceEqDiff, Nat.reduceLT, Nat.reduceAdd, Nat.zero_add, if_true, if_false, reduceCtorEq, tt_23]
  refine hK _ ?_
  clear hK K
  refine W.seqK fun Kb hKb => ?_
  refine W.blockK ?_
  refine W.seqK fun K hK => W.regionK tt_ok ?_
  simp only [exOps_nil, exOps_cons, exOp_eq, nx_eq, cur_eq, stepQ, ev, ofV, lk, putT, erA, inB, opt, bnd, req, ret, onQ, ap, binI, binG, eqOp, true_and, and_self, Nat.reduceEqDiff, Nat.reduceLT, Nat.reduceAdd, if_true, if_false, reduceCtorEq, tt_28]
  refine hK _ ?_
  clear hK K
  refine W.cond (b := false) (by simp only [ev, lk, Nat.reduceEqDiff, if_true, if_false, reduceCtorEq]) (fun h => absurd h (by simp)) (fun _ => ?_)
  refine W.seqK fun K hK => W.regionK tt_ok ?_
  simp only [decide_false, exOps_nil, exOps_cons, exOp_eq, nx_eq, cur_eq, stepQ, ev, ofV, lk, putT, erA, inB, opt, bnd, req, ret, onQ, ap, binI, binG, binF, intF, ldP, ldE, ldC, ldS, Kd.agg, comps, csize, takeI, takeC, dropC, fldF, true_and, and_self, Nat.reduceEqDiff, Nat.reduceLT, Nat.reduceLeDiff, Nat.reduceAdd, Nat.reduceSub, Nat.sub_self, Nat.le_refl, Nat.zero_add, if_true, if_false, Bool.false_eq_true, reduceCtorEq, ne_eq, not_false_eq_true, List.getElem?_cons_zero, List.getElem?_cons_succ, Option.bind_some, Option.map_some, tt_3, tt_23, h0]
  refine hK _ ?_
  clear hK K
  refine W.cond (b := false) (by simp only [ev, lk, Nat.reduceEqDiff, if_true, if_false, reduceCtorEq]) (fun h => absurd h (by simp)) (fun _ => ?_)
  refine W.seqK fun K hK => W.regionK tt_ok ?_
  simp only [decide_false, exOps_nil, exOps_cons, exOp_eq, nx_eq, cur_eq, stepQ, ev, ofV, lk, putT, erA, inB, opt, bnd, req, ret, onQ, ap, binI, binG, binF, intF, ldP, ldE, ldC, ldS, Kd.agg, comps, csize, takeI, takeC, dropC, fldF, true_and, and_self, Nat.reduceEqDiff, Nat.reduceLT, Nat.reduceLeDiff, Nat.reduceAdd, Nat.reduceSub, Nat.sub_self, Nat.le_refl, Nat.zero_add, if_true, if_false, Bool.false_eq_true, reduceCtorEq, ne_eq, not_false_eq_true, List.getElem?_cons_zero, List.getElem?_cons_succ, Option.bind_some, Option.map_some, tt_3, tt_23, h3]
  refine hK _ ?_
  clear hK K
  refine W.cond (b := false) (by simp only [ev, lk, Nat.reduceEqDiff, if_true, if_false, reduceCtorEq]) (fun h => absurd h (by simp)) (fun _ => ?_)
  refine W.seqK fun K hK => W.regionK tt_ok ?_
  simp only [exOps_nil, exOps_cons, exOp_eq, nx_eq, cur_eq, stepQ, ev, ofV, lk, putT, erA, inB, opt, bnd, req, ret, onQ, ap, binI, binG, binF, strF, ldP, ldE, ldC, ldS, Kd.agg, comps, csize, takeI, takeC, dropC, fldF, true_and, and_self, Nat.reduceEqDiff, Nat.reduceLT, Nat.reduceLeDiff, Nat.reduceAdd, Nat.reduceSub, Nat.sub_self, Nat.le_refl, Nat.add_zero, if_true, if_false, Bool.false_eq_true, reduceCtorEq, ne_eq, not_false_eq_true, List.getElem?_cons_zero, Option.bind_some, Option.map_some, tt_9, tt_23, beq_self_eq_true, eS, beq_self_eq_true]
  refine hK _ ?_
  clear hK K
  refine W.cond (b := true) (by simp only [ev, lk, Nat.reduceEqDiff, if_true, if_false, reduceCtorEq]) (fun _ => ?_) (fun h => absurd h (by simp))
  refine W.seqK fun K hK => W.regionK tt_ok ?_
  simp only [exOps_nil, exOps_cons, exOp_eq, nx_eq, cur_eq, stepQ, ev, ofV, lk, putT, erA, inB, opt, bnd, req, ret, onQ, ap, up, er, AV.isTup, AV.isAgg, ldP, ldE, ldC, ldS, Kd.agg, comps, szL, csize, takeI, takeC, dropC, stP, stE, stC, stS, and_true, true_and, and_self, Nat.reduceEqDiff, Nat.reduceLT, Nat.reduceLeDiff, Nat.reduceAdd, Nat.reduceSub, Nat.sub_self, Nat.le_refl, Nat.add_zero, Nat.zero_add, if_true, if_false, reduceCtorEq, Option.bind_some, Option.map_some, List.append_nil, List.nil_append, tt_23]
  refine hK _ ?_
  clear hK K
  refine W.ret ?_
  simp only [fin_ret, finB, resQ, resV, leL, AV.nmIn, AV.nmInL, entsIn, lk, opt, bnd, req, ret, onQ, AV.isTup, ldP, ldE, ldC, ldS, Kd.agg, comps, csize, takeI, takeC, dropC, thn_ret, inb_ret, and_true, true_and, and_self, Nat.reduceEqDiff, Nat.reduceLeDiff, Nat.reduceSub, Nat.sub_self, Nat.le_refl, if_true, if_false, reduceCtorEq, Option.bind_some, Option.map_some, tt_23]
  simp [eS, Nm, lk, Ent.nmIn, AV.nmIn, AV.nmInL]
theorem s1next_arg {T : Tms'} (k : ByteArray) (n : Int) (hn : n < 0) : FnR Try.prog G 12 [.ifc 55 (.agg [.ptr 0 0 0 1]), cV k n] [(0, .obj 58 (.agg [.mp 1, .mp 2, .sl 3 1 0 (encL (T)).length])), (1, .mset (.strs (nmL (encL (T))))), (2, .mset (.strs (tmL (encL (T))))), (3, .vec 9 (.strs (alL (encL (T)))))] (.tup [cV k n, .str eS, .int .i64 2]) [(0, .obj 58 (.agg [.mp 1, .mp 2, .sl 3 1 0 (encL (T)).length])), (1, .mset (.strs (nmL (encL (T))))), (2, .mset (.strs (tmL (encL (T))))), (3, .vec 9 (.strs (alL (encL (T)))))] := by
  rw [cV]
  refine FnR.of_walk (m := 45) (n0 := 16) tt_ok Try.func12 rfl rfl (by simp) (by simp [nmH]) ?_
  rw [show Try.f12.results.toList = [.cell 4 23, .tmp 5, .tmp 6] from rfl]
  refine W.seqK fun K hK => W.regionK tt_ok ?_
  simp only [exOps_nil, exOps_cons, exOp_eq, nx_eq, cur_eq, stepQ, ev, ofV, lk, parT, putT, erA, inB, opt, req, ret, onQ, ap, up, er, AV.isTup, true_and, and_self, Nat.reduceEqDiff, Nat.reduceLT, Nat.reduceAdd, Nat.zero_add, if_true, if_false, reduceCtorEq, tt_23]
  refine hK _ ?_
  clear hK K
  refine W.seqK fun Kb hKb => ?_
  refine W.blockK ?_
  refine W.seqK fun K hK => W.regionK tt_ok ?_
  simp only [exOps_nil, exOps_cons, exOp_eq, nx_eq, cur_eq, stepQ, ev, ofV, lk, putT, erA, inB, opt, bnd, req, ret, onQ, ap, binI, binG, eqOp, true_and, and_self, Nat.reduceEqDiff, Nat.reduceLT, Nat.reduceAdd, if_true, if_false, reduceCtorEq, tt_28]
  refine hK _ ?_
  clear hK K
  refine W.cond (b := false) (by simp only [ev, lk, Nat.reduceEqDiff, if_true, if_false, reduceCtorEq]) (fun h => absurd h (by simp)) (fun _ => ?_)
  refine W.seqK fun K hK => W.regionK tt_ok ?_
  simp only [decide_true, exOps_nil, exOps_cons, exOp_eq, nx_eq, cur_eq, stepQ, ev, ofV, lk, putT, erA, inB, opt, bnd, req, ret, onQ, ap, binI, binG, binF, intF, ldP, ldE, ldC, ldS, Kd.agg, comps, csize, takeI, takeC, dropC, fldF, true_and, and_self, Nat.reduceEqDiff, Nat.reduceLT, Nat.reduceLeDiff, Nat.reduceAdd, Nat.reduceSub, Nat.sub_self, Nat.le_refl, Nat.zero_add, if_true, if_false, Bool.false_eq_true, reduceCtorEq, ne_eq, not_false_eq_true, List.getElem?_cons_zero, List.getElem?_cons_succ, Option.bind_some, Option.map_some, tt_3, tt_23, hn]
  refine hK _ ?_
  clear hK K
  refine W.cond (b := true) (by simp only [ev, lk, Nat.reduceEqDiff, if_true, if_false, reduceCtorEq]) (fun _ => ?_) (fun h => absurd h (by simp))
  refine W.seqK fun K hK => W.regionK tt_ok ?_
  simp only [exOps_nil, exOps_cons, exOp_eq, nx_eq, cur_eq, stepQ, ev, ofV, lk, putT, erA, inB, opt, bnd, req, ret, onQ, ap, up, er, AV.isTup, AV.isAgg, ldP, ldE, ldC, ldS, Kd.agg, comps, szL, csize, takeI, takeC, dropC, stP, stE, stC, stS, and_true, true_and, and_self, Nat.reduceEqDiff, Nat.reduceLT, Nat.reduceLeDiff, Nat.reduceAdd, Nat.reduceSub, Nat.sub_self, Nat.le_refl, Nat.add_zero, Nat.zero_add, if_true, if_false, reduceCtorEq, Option.bind_some, Option.map_some, List.append_nil, List.nil_append, tt_23]
  refine hK _ ?_
  clear hK K
  refine W.ret ?_
  simp only [fin_ret, finB, resQ, resV, leL, AV.nmIn, AV.nmInL, entsIn, lk, opt, bnd, req, ret, onQ, AV.isTup, ldP, ldE, ldC, ldS, Kd.agg, comps, csize, takeI, takeC, dropC, thn_ret, inb_ret, and_true, true_and, and_self, Nat.reduceEqDiff, Nat.reduceLeDiff, Nat.reduceSub, Nat.sub_self, Nat.le_refl, if_true, if_false, reduceCtorEq, Option.bind_some, Option.map_some, tt_23]
  simp [eS, Nm, lk, Ent.nmIn, Row.nmIn, AV.nmIn, AV.nmInL]
theorem s1next_end {T : Tms'} (k : ByteArray) (n : Int) (hn : 1000 ≤ n) : FnR Try.prog G 12 [.ifc 55 (.agg [.ptr 0 0 0 1]), cV k n] [(0, .obj 58 (.agg [.mp 1, .mp 2, .sl 3 1 0 (encL (T)).length])), (1, .mset (.strs (nmL (encL (T))))), (2, .mset (.strs (tmL (encL (T))))), (3, .vec 9 (.strs (alL (encL (T)))))] (.tup [cV k n, .str eS, .int .i64 12]) [(0, .obj 58 (.agg [.mp 1, .mp 2, .sl 3 1 0 (encL (T)).length])), (1, .mset (.strs (nmL (encL (T))))), (2, .mset (.strs (tmL (encL (T))))), (3, .vec 9 (.strs (alL (encL (T)))))] := by
  have h0 : ¬ n < 0 := by omega
  rw [cV]
  refine FnR.of_walk (m := 45) (n0 := 16) tt_ok Try.func12 rfl rfl (by simp) (by simp [nmH]) ?_
  rw [show Try.f12.results.toList = [.cell 4 23, .tmp 5, .tmp 6] from rfl]
  refine W.seqK fun K hK => W.regionK tt_ok ?_
  simp only [exOps_nil, exOps_cons, exOp_eq, nx_eq, cur_eq, stepQ, ev, ofV, lk, parT, putT, erA, inB, opt, req, ret, onQ, ap, up, er, AV.isTup, true_and, and_self, Nat.reduceEqDiff, Nat.reduceLT, Nat.reduceAdd, Nat.zero_add, if_true, if_false, reduceCtorEq, tt_23]
  refine hK _ ?_
  clear hK K
  refine W.seqK fun Kb hKb => ?_
  refine W.blockK ?_
  refine W.seqK fun K hK => W.regionK tt_ok ?_
  simp only [exOps_nil, exOps_cons, exOp_eq, nx_eq, cur_eq, stepQ, ev, ofV, lk, putT, erA, inB, opt, bnd, req, ret, onQ, ap, binI, binG, eqOp, true_and, and_self, Nat.reduceEqDiff, Nat.reduceLT, Nat.reduceAdd, if_true, if_false, reduceCtorEq, tt_28]
  refine hK _ ?_
  clear hK K
  refine W.cond (b := false) (by simp only [ev, lk, Nat.reduceEqDiff, if_true, if_false, reduceCtorEq]) (fun h => absurd h (by simp)) (fun _ => ?_)
  refine W.seqK fun K hK => W.regionK tt_ok ?_
  simp only [decide_false, exOps_nil, exOps_cons, exOp_eq, nx_eq, cur_eq, stepQ, ev, ofV, lk, putT, erA, inB, opt, bnd, req, ret, onQ, ap, binI, binG, binF, intF, ldP, ldE, ldC, ldS, Kd.agg, comps, csize, takeI, takeC, dropC, fldF, true_and, and_self, Nat.reduceEqDiff, Nat.reduceLT, Nat.reduceLeDiff, Nat.reduceAdd, Nat.reduceSub, Nat.sub_self, Nat.le_refl, Nat.zero_add, if_true, if_false, Bool.false_eq_true, reduceCtorEq, ne_eq, not_false_eq_true, List.getElem?_cons_zero, List.getElem?_cons_succ, Option.bind_some, Option.map_some, tt_3, tt_23, h0]
  refine hK _ ?_
  clear hK K
  refine W.cond (b := false) (by simp only [ev, lk, Nat.reduceEqDiff, if_true, if_false, reduceCtorEq]) (fun h => absurd h (by simp)) (fun _ => ?_)
  refine W.seqK fun K hK => W.regionK tt_ok ?_
  simp only [decide_true, exOps_nil, exOps_cons, exOp_eq, nx_eq, cur_eq, stepQ, ev, ofV, lk, putT, erA, inB, opt, bnd, req, ret, onQ, ap, binI, binG, binF, intF, ldP, ldE, ldC, ldS, Kd.agg, comps, csize, takeI, takeC, dropC, fldF, true_and, and_self, Nat.reduceEqDiff, Nat.reduceLT, Nat.reduceLeDiff, Nat.reduceAdd, Nat.reduceSub, Nat.sub_self, Nat.le_refl, Nat.zero_add, if_true, if_false, Bool.false_eq_true, reduceCtorEq, ne_eq, not_false_eq_true, List.getElem?_cons_zero, List.getElem?_cons_succ, Option.bind_some, Option.map_some, tt_3, tt_23, hn]
  refine hK _ ?_
  clear hK K
  refine W.cond (b := true) (by simp only [ev, lk, Nat.reduceEqDiff, if_true, if_false, reduceCtorEq]) (fun _ => ?_) (fun h => absurd h (by simp))
  refine W.seqK fun K hK => W.regionK tt_ok ?_
  simp only [exOps_nil, exOps_cons, exOp_eq, nx_eq, cur_eq, stepQ, ev, ofV, lk, putT, erA, inB, opt, bnd, req, ret, onQ, ap, up, er, AV.isTup, AV.isAgg, ldP, ldE, ldC, ldS, Kd.agg, comps, szL, csize, takeI, takeC, dropC, stP, stE, stC, stS, and_true, true_and, and_self, Nat.reduceEqDiff, Nat.reduceLT, Nat.reduceLeDiff, Nat.reduceAdd, Nat.reduceSub, Nat.sub_self, Nat.le_refl, Nat.add_zero, Nat.zero_add, if_true, if_false, reduceCtorEq, Option.bind_some, Option.map_some, List.append_nil, List.nil_append, tt_23]
  refine hK _ ?_
  clear hK K
  refine W.ret ?_
  simp only [fin_ret, finB, resQ, resV, leL, AV.nmIn, AV.nmInL, entsIn, lk, opt, bnd, req, ret, onQ, AV.isTup, ldP, ldE, ldC, ldS, Kd.agg, comps, csize, takeI, takeC, dropC, thn_ret, inb_ret, and_true, true_and, and_self, Nat.reduceEqDiff, Nat.reduceLeDiff, Nat.reduceSub, Nat.sub_self, Nat.le_refl, if_true, if_false, reduceCtorEq, Option.bind_some, Option.map_some, tt_23]
  simp [eS, Nm, lk, Ent.nmIn, Row.nmIn, AV.nmIn, AV.nmInL]
theorem s1next_key {T : Tms'} (n : Int) (h1 : 0 ≤ n) (h2 : n < 1000) : FnR Try.prog G 12 [.ifc 55 (.agg [.ptr 0 0 0 1]), cV eS n] [(0, .obj 58 (.agg [.mp 1, .mp 2, .sl 3 1 0 (encL (T)).length])), (1, .mset (.strs (nmL (encL (T))))), (2, .mset (.strs (tmL (encL (T))))), (3, .vec 9 (.strs (alL (encL (T)))))] (.tup [cV eS n, .str eS, .int .i64 6]) [(0, .obj 58 (.agg [.mp 1, .mp 2, .sl 3 1 0 (encL (T)).length])), (1, .mset (.strs (nmL (encL (T))))), (2, .mset (.strs (tmL (encL (T))))), (3, .vec 9 (.strs (alL (encL (T)))))] := by
  have h0 : ¬ n < 0 := by omega
  have h3 : ¬ 1000 ≤ n := by omega
  rw [cV]
  refine FnR.of_walk (m := 45) (n0 := 16) tt_ok Try.func12 rfl rfl (by simp) (by simp [nmH]) ?_
  rw [show Try.f12.results.toList = [.cell 4 23, .tmp 5, .tmp 6] from rfl]
  refine W.seqK fun K hK => W.regionK tt_ok ?_
  simp only [exOps_nil, exOps_cons, exOp_eq, nx_eq, cur_eq, stepQ, ev, ofV, lk, parT, putT, erA, inB, opt, req, ret, onQ, ap, up, er, AV.isTup, true_and, and_self, Nat.reduceEqDiff, Nat.reduceLT, Nat.reduceAdd, Nat.zero_add, if_true, if_false, reduceCtorEq, tt_23]
  refine hK _ ?_
  clear hK K
  refine W.seqK fun Kb hKb => ?_
  refine W.blockK ?_
  refine W.seqK fun K hK => W.regionK tt_ok ?_
  simp only [exOps_nil, exOps_cons, exOp_eq, nx_eq, cur_eq, stepQ, ev, ofV, lk, putT, erA, inB, opt, bnd, req, ret, onQ, ap, binI, binG, eqOp, true_and, and_self, Nat.reduceEqDiff, Nat.reduceLT, Nat.reduceAdd, if_true, if_false, reduceCtorEq, tt_28]
  refine hK _ ?_
  clear hK K
  refine W.cond (b := false) (by simp only [ev, lk, Nat.reduceEqDiff, if_true, if_false, reduceCtorEq]) (fun h => absurd h (by simp)) (fun _ => ?_)
  refine W.seqK fun K hK => W.regionK tt_ok ?_
  simp only [decide_false, exOps_nil, exOps_cons, exOp_eq, nx_eq, cur_eq, stepQ, ev, ofV, lk, putT, erA, inB, opt, bnd, req, ret, onQ, ap, binI, binG, binF, intF, ldP, ldE, ldC, ldS, Kd.agg, comps, csize, takeI, takeC, dropC, fldF, true_and, and_self, Nat.reduceEqDiff, Nat.reduceLT, Nat.reduceLeDiff, Nat.reduceAdd, Nat.reduceSub, Nat.sub_self, Nat.le_refl, Nat.zero_add, if_true, if_false, Bool.false_eq_true, reduceCtorEq, ne_eq, not_false_eq_true, List.getElem?_cons_zero, List.getElem?_cons_succ, Option.bind_some, Option.map_some, tt_3, tt_23, h0]
  refine hK _ ?_
  clear hK K
  refine W.cond (b := false) (by simp only [ev, lk, Nat.reduceEqDiff, if_true, if_false, reduceCtorEq]) (fun h => absurd h (by simp)) (fun _ => ?_)
  refine W.seqK fun K hK => W.regionK tt_ok ?_
  simp only [decide_false, exOps_nil, exOps_cons, exOp_eq, nx_eq, cur_eq, stepQ, ev, ofV, lk, putT, erA, inB, opt, bnd, req, ret, onQ, ap, binI, binG, binF, intF, ldP, ldE, ldC, ldS, Kd.agg, comps, csize, takeI, takeC, dropC, fldF, true_and, and_self, Nat.reduceEqDiff, Nat.reduceLT, Nat.reduceLeDiff, Nat.reduceAdd, Nat.reduceSub, Nat.sub_self, Nat.le_refl, Nat.zero_add, if_true, if_false, Bool.false_eq_true, reduceCtorEq, ne_eq, not_false_eq_true, List.getElem?_cons_zero, List.getElem?_cons_succ, Option.bind_some, Option.map_some, tt_3, tt_23, h3]
  refine hK _ ?_
  clear hK K
  refine W.cond (b := false) (by simp only [ev, lk, Nat.reduceEqDiff, if_true, if_false, reduceCtorEq]) (fun h => absurd h (by simp)) (fun _ => ?_)
  refine W.seqK fun K hK => W.regionK tt_ok ?_
  simp only [exOps_nil, exOps_cons, exOp_eq, nx_eq, cur_eq, stepQ, ev, ofV, lk, putT, erA, inB, opt, bnd, req, ret, onQ, ap, binI, binG, binF, strF, ldP, ldE, ldC, ldS, Kd.agg, comps, csize, takeI, takeC, dropC, fldF, true_and, and_self, Nat.reduceEqDiff, Nat.reduceLT, Nat.reduceLeDiff, Nat.reduceAdd, Nat.reduceSub, Nat.sub_self, Nat.le_refl, Nat.add_zero, if_true, if_false, Bool.false_eq_true, reduceCtorEq, ne_eq, not_false_eq_true, List.getElem?_cons_zero, Option.bind_some, Option.map_some, tt_9, tt_23, beq_self_eq_true, eS, beq_self_eq_true]
  refine hK _ ?_
  clear hK K
  refine W.cond (b := true) (by simp only [ev, lk, Nat.reduceEqDiff, if_true, if_false, reduceCtorEq]) (fun _ => ?_) (fun h => absurd h (by simp))
  refine W.seqK fun K hK => W.regionK tt_ok ?_
  simp only [exOps_nil, exOps_cons, exOp_eq, nx_eq, cur_eq, stepQ, ev, ofV, lk, putT, erA, inB, opt, bnd, req, ret, onQ, ap, up, er, AV.isTup, AV.isAgg, ldP, ldE, ldC, ldS, Kd.agg, comps, szL, csize, takeI, takeC, dropC, stP, stE, stC, stS, and_true, true_and, and_self, Nat.reduceEqDiff, Nat.reduceLT, Nat.reduceLeDiff, Nat.reduceAdd, Nat.reduceSub, Nat.sub_self, Nat.le_refl, Nat.add_zero, Nat.zero_add, if_true, if_false, reduceCtorEq, Option.bind_some, Option.map_some, List.append_nil, List.nil_append, tt_23]
  refine hK _ ?_
  clear hK K
  refine W.ret ?_
  simp only [fin_ret, finB, resQ, resV, leL, AV.nmIn, AV.nmInL, entsIn, lk, opt, bnd, req, ret, onQ, AV.isTup, ldP, ldE, ldC, ldS, Kd.agg, comps, csize, takeI, takeC, dropC, thn_ret, inb_ret, and_true, true_and, and_self, Nat.reduceEqDiff, Nat.reduceLeDiff, Nat.reduceSub, Nat.sub_self, Nat.le_refl, if_true, if_false, reduceCtorEq, Option.bind_some, Option.map_some, tt_23]
  simp [eS, Nm, lk, Ent.nmIn, Row.nmIn, AV.nmIn, AV.nmInL]
theorem rnext_few (k : ByteArray) (n : Int) (h1 : 0 ≤ n) (h2 : n < 1000) (hk0 : k ≠ eS) (hk : k.size ≠ 32) : FnR Try.prog G 12 [.ifc 53 (.agg []), cV k n] [] (.tup [cV k n, .str eS, .int .i64 6]) [] := by
  have ck := rkeys_bad k sNext 2 hk (by decide) (by omega) (by omega)
  simp only [sNext] at ck
  have h0 : ¬ n < 0 := by omega
  have h3 : ¬ 1000 ≤ n := by omega
  have kne : (k.toList == ({ data := #[] } : ByteArray).toList) = false := by rw [toL_beq, decide_eq_false_iff_not]; exact hk0
  rw [cV]
  refine FnR.of_walk (m := 45) (n0 := 16) tt_ok Try.func12 rfl rfl (by simp) (by simp [nmH]) ?_
  rw [show Try.f12.results.toList = [.cell 4 23, .tmp 5, .tmp 6] from rfl]
  refine W.seqK fun K hK => W.regionK tt_ok ?_
  simp only [exOps_nil, exOps_cons, exOp_eq, nx_eq, cur_eq, stepQ, ev, ofV, lk, parT, putT, erA, inB, opt, req, ret, onQ, ap, up, er, AV.isTup, true_and, and_self, Nat.reduceEqDiff, Nat.reduceLT, Nat.reduceAdd, Nat.zero_add, if_true, if_false, reduceCtorEq, tt_23]
  refine hK _ ?_
  clear hK K
  refine W.seqK fun Kb hKb => ?_
  refine W.blockK ?_
  refine W.seqK fun K hK => W.regionK tt_ok ?_
  simp only [exOps_nil, exOps_cons, exOp_eq, nx_eq, cur_eq, stepQ, ev, ofV, lk, putT, erA, inB, opt, bnd, req, ret, onQ, ap, binI, binG, eqOp, true_and, and_self, Nat.reduceEqDiff, Nat.reduceLT, Nat.reduceAdd, if_true, if_false, reduceCtorEq, tt_28]
  refine hK _ ?_
  clear hK K
  refine W.cond (b := false) (by simp only [ev, lk, Nat.reduceEqDiff, if_true, if_false, reduceCtorEq]) (fun h => absurd h (by simp)) (fun _ => ?_)
  refine W.seqK fun K hK => W.regionK tt_ok ?_
  simp only [decide_false, exOps_nil, exOps_cons, exOp_eq, nx_eq, cur_eq, stepQ, ev, ofV, lk, putT, erA, inB, opt, bnd, req, ret, onQ, ap, binI, binG, binF, intF, ldP, ldE, ldC, ldS, Kd.agg, comps, csize, takeI, takeC, dropC, fldF, true_and, and_self, Nat.reduceEqDiff, Nat.reduceLT, Nat.reduceLeDiff, Nat.reduceAdd, Nat.reduceSub, Nat.sub_self, Nat.le_refl, Nat.zero_add, if_true, if_false, Bool.false_eq_true, reduceCtorEq, ne_eq, not_false_eq_true, List.getElem?_cons_zero, List.getElem?_cons_succ, Option.bind_some, Option.map_some, tt_3, tt_23, h0]
  refine hK _ ?_
  clear hK K
  refine W.cond (b := false) (by simp only [ev, lk, Nat.reduceEqDiff, if_true, if_false, reduceCtorEq]) (fun h => absurd h (by simp)) (fun _ => ?_)
  refine W.seqK fun K hK => W.regionK tt_ok ?_
  simp only [decide_false, exOps_nil, exOps_cons, exOp_eq, nx_eq, cur_eq, stepQ, ev, ofV, lk, putT, erA, inB, opt, bnd, req, ret, onQ, ap, binI, binG, binF, intF, ldP, ldE, ldC, ldS, Kd.agg, comps, csize, takeI, takeC, dropC, fldF, true_and, and_self, Nat.reduceEqDiff, Nat.reduceLT, Nat.reduceLeDiff, Nat.reduceAdd, Nat.reduceSub, Nat.sub_self, Nat.le_refl, Nat.zero_add, if_true, if_false, Bool.false_eq_true, reduceCtorEq, ne_eq, not_false_eq_true, List.getElem?_cons_zero, List.getElem?_cons_succ, Option.bind_some, Option.map_some, tt_3, tt_23, h3]
  refine hK _ ?_
  clear hK K
  refine W.cond (b := false) (by simp only [ev, lk, Nat.reduceEqDiff, if_true, if_false, reduceCtorEq]) (fun h => absurd h (by simp)) (fun _ => ?_)
  refine W.seqK fun K hK => W.regionK tt_ok ?_
  simp only [exOps_nil, exOps_cons, exOp_eq, nx_eq, cur_eq, stepQ, ev, ofV, lk, putT, erA, inB, opt, bnd, req, ret, onQ, ap, binI, binG, binF, strF, ldP, ldE, ldC, ldS, Kd.agg, comps, csize, takeI, takeC, dropC, fldF, true_and, and_self, Nat.reduceEqDiff, Nat.reduceLT, Nat.reduceLeDiff, Nat.reduceAdd, Nat.reduceSub, Nat.sub_self, Nat.le_refl, Nat.add_zero, if_true, if_false, Bool.false_eq_true, reduceCtorEq, ne_eq, not_false_eq_true, List.getElem?_cons_zero, Option.bind_some, Option.map_some, tt_9, tt_23, kne]
  refine hK _ ?_
  clear hK K
  refine W.cond (b := false) (by simp only [ev, lk, Nat.reduceEqDiff, if_true, if_false, reduceCtorEq]) (fun h => absurd h (by simp)) (fun _ => ?_)
  refine W.skip ?_
  simp only [thn_normal, inb_normal]
  refine hKb _ ?_
  refine W.seqK fun K hK => W.regionK tt_ok ?_
  simp only [exOps_cons, exOp_eq, exCall_eq, nx_eq, cur_eq, evL, stepQ, ev, ofV, lk, putT, erA, inB, opt, bnd, req, ret, onQ, ap, ldP, ldE, ldC, ldS, Kd.agg, comps, csize, takeI, takeC, dropC, fldF, true_and, and_self, Nat.reduceEqDiff, Nat.reduceLT, Nat.reduceLeDiff, Nat.reduceAdd, Nat.reduceSub, Nat.sub_self, Nat.le_refl, Nat.add_zero, if_true, if_false, Bool.false_eq_true, reduceCtorEq, ne_eq, not_false_eq_true, List.getElem?_cons_zero, Option.bind_some, Option.map_some, tt_9, tt_23]
  refine CallM.mk _ _ (re_keys) ?_
  refine CallK.pure _ _ ck call38 (by simp only [AV.nmIn, bnd, req, ret, onQ, AV.isTup, isTupL, true_and, and_self, Bool.false_eq_true, List.append_nil, vw.vwL, vw, AV.free, Bool.or_self]; all_goals (and_intros <;> first | exact AV.subL_refl _ | omega | (simp [AV.sub]; done) | rfl | (simp [AV.subL_refl]; done) | (simp; exact AV.subL_refl _))) ?_
  simp only [exOps_nil, exOps_cons, exOp_eq, nx_eq, cur_eq, stepQ, ev, lk, putT, erA, inB, opt, ret, onQ, ap, true_and, Nat.reduceEqDiff, Nat.reduceLT, Nat.reduceAdd, if_true, if_false, reduceCtorEq]
  refine hK _ ?_
  clear hK K
  refine W.seqK fun Kx hKx => ?_
  refine W.seqK fun K hK => W.regionK tt_ok ?_
  simp only [decide_true, exOps_nil, exOps_cons, exOp_eq, exCall_eq, nx_eq, cur_eq, evL, stepQ, ev, ofV, lk, putT, erA, inB, opt, bnd, req, ret, onQ, ap, binI, binG, binF, intF, bltQ, bltV, lenF, true_and, and_self, or_false, Nat.reduceEqDiff, Nat.reduceLT, Nat.reduceAdd, Int.reduceLT, if_true, if_false, reduceCtorEq, List.getElem?_cons_zero, Option.bind_some, Option.map_some, tt_29]
  refine hK _ ?_
  clear hK K
  refine W.cond (b := true) (by simp only [ev, lk, Nat.reduceEqDiff, if_true, if_false, reduceCtorEq]) (fun _ => ?_) (fun h => absurd h (by simp))
  refine W.seqK fun K hK => W.regionK tt_ok ?_
  simp only [exOps_nil, exOps_cons, exOp_eq, nx_eq, cur_eq, stepQ, ev, ofV, lk, putT, erA, inB, opt, bnd, req, ret, onQ, ap, up, er, AV.isTup, AV.isAgg, ldP, ldE, ldC, ldS, Kd.agg, comps, szL, csize, takeI, takeC, dropC, stP, stE, stC, stS, and_true, true_and, and_self, Nat.reduceEqDiff, Nat.reduceLT, Nat.reduceLeDiff, Nat.reduceAdd, Nat.reduceSub, Nat.sub_self, Nat.le_refl, Nat.add_zero, Nat.zero_add, if_true, if_false, reduceCtorEq, Option.bind_some, Option.map_some, List.append_nil, List.nil_append, tt_23]
  refine hK _ ?_
  clear hK K
  refine W.ret ?_
  simp only [fin_ret, finB, resQ, resV, leL, AV.nmIn, AV.nmInL, entsIn, lk, opt, bnd, req, ret, onQ, AV.isTup, ldP, ldE, ldC, ldS, Kd.agg, comps, csize, takeI, takeC, dropC, thn_ret, and_true, true_and, and_self, Nat.reduceEqDiff, Nat.reduceLeDiff, Nat.reduceSub, Nat.sub_self, Nat.le_refl, if_true, if_false, reduceCtorEq, Option.bind_some, Option.map_some, tt_23]
  simp [eS]
theorem rnext_ok (k : ByteArray) (n : Int) (h1 : 0 ≤ n) (h2 : n < 1000) (hk : k.size = 32) : FnR Try.prog G 12 [.ifc 53 (.agg []), cV k n] [] (.tup [cV (strOf (part (keE k sNext 2) 0)) (n + 1), .str (strOf (part (keE k sNext 2) 1)), .int .i64 0]) [] := by
  have hk0 : k ≠ eS := by rintro rfl; exact absurd hk (by decide)
  have ck := rkeys_ok k sNext 2 hk (by decide) (by omega) (by omega)
  have hkl : kL (keE k sNext 2) 2 = [strOf (part (keE k sNext 2) 0), strOf (part (keE k sNext 2) 1)] := rfl
  rw [hkl] at ck
  generalize strOf (part (keE k sNext 2) 0) = a at *
  generalize strOf (part (keE k sNext 2) 1) = b at *
  simp only [sNext] at ck
  have hw : IntKind.i64.wrap (n + 1) = n + 1 := by rw [IntKind.wrap_i64]; omega
  have g0 : List.getD [a, b] 0 ByteArray.empty = a := rfl
  have g1 : List.getD [a, b] 1 ByteArray.empty = b := rfl
  have hln : (([a, b] : List ByteArray).length : Int) = 2 := rfl
  rw [cV]
  have h0 : ¬ n < 0 := by omega
  have h3 : ¬ 1000 ≤ n := by omega
  have kne : (k.toList == ({ data := #[] } : ByteArray).toList) = false := by rw [toL_beq, decide_eq_false_iff_not]; exact hk0
  rw [cV]
  refine FnR.of_walk (m := 45) (n0 := 16) tt_ok Try.func12 rfl rfl (by simp) (by simp [nmH]) ?_
  rw [show Try.f12.results.toList = [.cell 4 23, .tmp 5, .tmp 6] from rfl]
  refine W.seqK fun K hK => W.regionK tt_ok ?_
  simp only [exOps_nil, exOps_cons, exOp_eq, nx_eq, cur_eq, stepQ, ev, ofV, lk, parT, putT, erA, inB, opt, req, ret, onQ, ap, up, er, AV.isTup, true_and, and_self, Nat.reduceEqDiff, Nat.reduceLT, Nat.reduceAdd, Nat.zero_add, if_true, if_false, reduceCtorEq, tt_23]
  refine hK _ ?_
  clear hK K
  refine W.seqK fun Kb hKb => ?_
  refine W.blockK ?_
  refine W.seqK fun K hK => W.regionK tt_ok ?_
  simp only [exOps_nil, exOps_cons, exOp_eq, nx_eq, cur_eq, stepQ, ev, ofV, lk, putT, erA, inB, opt, bnd, req, ret, onQ, ap, binI, binG, eqOp, true_and, and_self, Nat.reduceEqDiff, Nat.reduceLT, Nat.reduceAdd, if_true, if_false, reduceCtorEq, tt_28]
  refine hK _ ?_
  clear hK K
  refine W.cond (b := false) (by simp only [ev, lk, Nat.reduceEqDiff, if_true, if_false, reduceCtorEq]) (fun h => absurd h (by simp)) (fun _ => ?_)
  refine W.seqK fun K hK => W.regionK tt_ok ?_
  simp only [decide_false, exOps_nil, exOps_cons, exOp_eq, nx_eq, cur_eq, stepQ, ev, ofV, lk, putT, erA, inB, opt, bnd, req, ret, onQ, ap, binI, binG, binF, intF, ldP, ldE, ldC, ldS, Kd.agg, comps, csize, takeI, takeC, dropC, fldF, true_and, and_self, Nat.reduceEqDiff, Nat.reduceLT, Nat.reduceLeDiff, Nat.reduceAdd, Nat.reduceSub, Nat.sub_self, Nat.le_refl, Nat.zero_add, if_true, if_false, Bool.false_eq_true, reduceCtorEq, ne_eq, not_false_eq_true, List.getElem?_cons_zero, List.getElem?_cons_succ, Option.bind_some, Option.map_some, tt_3, tt_23, h0]
  refine hK _ ?_
  clear hK K
  refine W.cond (b := false) (by simp only [ev, lk, Nat.reduceEqDiff, if_true, if_false, reduceCtorEq]) (fun h => absurd h (by simp)) (fun _ => ?_)
  refine W.seqK fun K hK => W.regionK tt_ok ?_
  simp only [decide_false, exOps_nil, exOps_cons, exOp_eq, nx_eq, cur_eq, stepQ, ev, ofV, lk, putT, erA, inB, opt, bnd, req, ret, onQ, ap, binI, binG, binF, intF, ldP, ldE, ldC, ldS, Kd.agg, comps, csize, takeI, takeC, dropC, fldF, true_and, and_self, Nat.reduceEqDiff, Nat.reduceLT, Nat.reduceLeDiff, Nat.reduceAdd, Nat.reduceSub, Nat.sub_self, Nat.le_refl, Nat.zero_add, if_true, if_false, Bool.false_eq_true, reduceCtorEq, ne_eq, not_false_eq_true, List.getElem?_cons_zero, List.getElem?_cons_succ, Option.bind_some, Option.map_some, tt_3, tt_23, h3]
  refine hK _ ?_
  clear hK K
  refine W.cond (b := false) (by simp only [ev, lk, Nat.reduceEqDiff, if_true, if_false, reduceCtorEq]) (fun h => absurd h (by simp)) (fun _ => ?_)
  refine W.seqK fun K hK => W.regionK tt_ok ?_
  simp only [exOps_nil, exOps_cons, exOp_eq, nx_eq, cur_eq, stepQ, ev, ofV, lk, putT, erA, inB, opt, bnd, req, ret, onQ, ap, binI, binG, binF, strF, ldP, ldE, ldC, ldS, Kd.agg, comps, csize, takeI, takeC, dropC, fldF, true_and, and_self, Nat.reduceEqDiff, Nat.reduceLT, Nat.reduceLeDiff, Nat.reduceAdd, Nat.reduceSub, Nat.sub_self, Nat.le_refl, Nat.add_zero, if_true, if_false, Bool.false_eq_true, reduceCtorEq, ne_eq, not_false_eq_true, List.getElem?_cons_zero, Option.bind_some, Option.map_some, tt_9, tt_23, kne]
  refine hK _ ?_
  clear hK K
  refine W.cond (b := false) (by simp only [ev, lk, Nat.reduceEqDiff, if_true, if_false, reduceCtorEq]) (fun h => absurd h (by simp)) (fun _ => ?_)
  refine W.skip ?_
  simp only [thn_normal, inb_normal]
  refine hKb _ ?_
  refine W.seqK fun K hK => W.regionK tt_ok ?_
  simp only [exOps_cons, exOp_eq, exCall_eq, nx_eq, cur_eq, evL, stepQ, ev, ofV, lk, putT, erA, inB, opt, bnd, req, ret, onQ, ap, ldP, ldE, ldC, ldS, Kd.agg, comps, csize, takeI, takeC, dropC, fldF, true_and, and_self, Nat.reduceEqDiff, Nat.reduceLT, Nat.reduceLeDiff, Nat.reduceAdd, Nat.reduceSub, Nat.sub_self, Nat.le_refl, Nat.add_zero, if_true, if_false, Bool.false_eq_true, reduceCtorEq, ne_eq, not_false_eq_true, List.getElem?_cons_zero, Option.bind_some, Option.map_some, tt_9, tt_23]
  refine CallM.mk _ _ (re_keys) ?_
  refine CallK.pure _ _ ck call38 (by simp only [AV.nmIn, bnd, req, ret, onQ, AV.isTup, isTupL, and_true, true_and, and_self, Bool.false_eq_true, not_false_eq_true, imp_false, List.append_nil, vw.vwL, vw, AV.free, Bool.or_self]; all_goals (and_intros <;> first | exact AV.subL_refl _ | omega | (simp [AV.sub]; done) | rfl | (simp [AV.subL_refl]; done) | (simp; exact AV.subL_refl _))) ?_
  simp only [exOps_nil, exOps_cons, exOp_eq, nx_eq, cur_eq, stepQ, ev, lk, putT, erA, inB, opt, ret, onQ, ap, true_and, Nat.reduceEqDiff, Nat.reduceLT, Nat.reduceAdd, if_true, if_false, reduceCtorEq]
  refine hK _ ?_
  clear hK K
  refine W.seqK fun Kx hKx => ?_
  refine W.seqK fun K hK => W.regionK tt_ok ?_
  simp only [decide_false, exOps_nil, exOps_cons, exOp_eq, exCall_eq, nx_eq, cur_eq, evL, stepQ, ev, ofV, lk, putT, erA, inB, opt, bnd, req, ret, onQ, ap, binI, binG, binF, intF, bltQ, bltV, lenF, true_and, and_self, or_false, Nat.reduceEqDiff, Nat.reduceLT, Nat.reduceAdd, Int.reduceLT, if_true, if_false, reduceCtorEq, List.getElem?_cons_zero, Option.bind_some, Option.map_some, tt_29, hln]
  refine hK _ ?_
  clear hK K
  refine W.cond (b := false) (by simp only [ev, lk, Nat.reduceEqDiff, if_true, if_false, reduceCtorEq]) (fun h => absurd h (by simp)) (fun _ => W.skip ?_)
  simp only [thn_normal]
  refine hKx _ ?_
  refine W.seqK fun K hK => W.drawK [⟨0, false, [], false⟩, ⟨0, false, [0], false⟩, ⟨0, false, [0, 1], false⟩, ⟨0, false, [], false⟩, ⟨0, false, [3], false⟩, ⟨0, false, [3, 4], false⟩, ⟨0, false, [0, 1, 2, 3, 4, 5], false⟩, ⟨0, false, [], false⟩, ⟨0, true, [7], true⟩, ⟨0, true, [7, 8], true⟩, ⟨3, false, [0, 1, 2, 3, 4, 5, 6], false⟩, ⟨0, false, [0, 1, 2, 3, 4, 5, 6, 7, 8, 9, 10], false⟩, ⟨0, false, [0, 1, 2, 3, 4, 5, 6, 7, 8, 9, 10, 11], false⟩] mix tt_ok (by kernel_rfl) ?_
  simp only [decide_true, decide_false, Bool.or_false, List.contains_cons, List.contains_nil, Nat.reduceBEq, exOp_eq, exD_nil, exD_cons, nxD_eq, cur_eq, flI, flE, hiE, ownB, lowL, evP, stepQ, ev, ofV, lk, putT, erA, inB, opt, bnd, req, ret, onQ, ap, up, er, AV.isTup, AV.isAgg, binI, binG, binF, intF, Kd.elem, ixA, asI, ldP, ldE, ldC, ldS, Kd.agg, comps, szL, csize, takeI, takeC, dropC, stP, stE, stC, stS, fldF, bldF, bldS, and_true, true_and, and_self, and_false, Nat.reduceEqDiff, Nat.reduceLT, Nat.reduceLeDiff, Nat.reduceAdd, Nat.reduceSub, Nat.reduceDiv, Int.reduceLT, Int.reduceLE, Int.reduceToNat, Nat.sub_self, Nat.le_refl, Nat.add_zero, Nat.zero_add, if_true, if_false, Bool.false_eq_true, reduceCtorEq, ne_eq, not_false_eq_true, List.getElem?_cons_zero, List.getElem?_cons_succ, Option.bind_some, Option.map_some, List.append_nil, List.nil_append, List.cons_append, tt_3, tt_9, tt_23, tt_29, hw, hln, g0, g1, Int.toNat_zero]
  refine ⟨by rfl, ?_⟩
  refine hK _ ?_
  clear hK K
  refine W.ret ?_
  simp only [fin_ret, finB, resQ, resV, leL, AV.nmIn, AV.nmInL, entsIn, lk, opt, bnd, req, ret, onQ, AV.isTup, ldP, ldE, ldC, ldS, Kd.agg, comps, csize, takeI, takeC, dropC, and_self, Nat.reduceEqDiff, Nat.reduceLeDiff, Nat.reduceSub, Nat.sub_self, Nat.le_refl, if_true, if_false, reduceCtorEq, Option.bind_some, Option.map_some, tt_23]
  done
theorem synext_ok {T : Tms'} (hok : okTs T) (hl : T.length < 800) (k : ByteArray) (n : Int) (h1 : 0 ≤ n) (h2 : n < 1000) (hk0 : k ≠ eS) (hk : k.size ≤ 4000) :
    FnR Try.prog G 12 [.ifc 55 (.agg [.ptr 0 0 0 1]), cV k n] (tabS 3 T) (.tup [cV (putN (encL T) 4 (kyP k sNext 0)) (n + 1), .str (putN (encL (syT T k sNext 1)) 4 (kyP k sNext 1)), .int .i64 0]) (tbX 369 (encL (syT T k sNext 2))) := by
  have ck := ((sykeys_fn T k sNext hk (by decide) hok hl 2 (by omega) (by omega)).swap 4 368).swap 5 369
  have hsn : syN T k sNext 2 = [putN (encL T) 4 (kyP k sNext 0), putN (encL (syT T k sNext 1)) 4 (kyP k sNext 1)] := rfl
  rw [hsn] at ck
  generalize putN (encL T) 4 (kyP k sNext 0) = a at *
  generalize putN (encL (syT T k sNext 1)) 4 (kyP k sNext 1) = b at *
  have hw : IntKind.i64.wrap (n + 1) = n + 1 := by rw [IntKind.wrap_i64]; omega
  have g0 : List.getD [a, b] 0 ByteArray.empty = a := rfl
  have g1 : List.getD [a, b] 1 ByteArray.empty = b := rfl
  have hsx : sNext = { data := #[110, 101, 120, 116] } := rfl
  by_cases hT : T = []
  · subst hT
    simp only [tabS_nil, tabE, tbX] at ck ⊢
    simp [AV.map, AV.mapL, enMap, Ent.map, Row.map, swp] at ck
    generalize syT [] k sNext 2 = T2 at *
    rw [hsx] at ck
    rw [cV]
    have h0 : ¬ n < 0 := by omega
    have h3 : ¬ 1000 ≤ n := by omega
    have kne : (k.toList == ({ data := #[] } : ByteArray).toList) = false := by rw [toL_beq, decide_eq_false_iff_not]; exact hk0
    rw [cV]
    refine FnR.of_walk (m := 45) (n0 := 16) tt_ok Try.func12 rfl rfl (by simp) (by simp [nmH]) ?_
    rw [show Try.f12.results.toList = [.cell 4 23, .tmp 5, .tmp 6] from rfl]
    refine W.seqK fun K hK => W.regionK tt_ok ?_
    simp only [exOps_nil, exOps_cons, exOp_eq, nx_eq, cur_eq, stepQ, ev, ofV, lk, parT, putT, erA, inB, opt, req, ret, onQ, ap, up, er, AV.isTup, true_and, and_self, Nat.reduceEqDiff, Nat.reduceLT, Nat.reduceAdd, Nat.zero_add, if_true, if_false, reduceCtorEq, tt_23]
    refine hK _ ?_
    clear hK K
    refine W.seqK fun Kb hKb => ?_
    refine W.blockK ?_
    refine W.seqK fun K hK => W.regionK tt_ok ?_
    simp only [exOps_nil, exOps_cons, exOp_eq, nx_eq, cur_eq, stepQ, ev, ofV, lk, putT, erA, inB, opt, bnd, req, ret, onQ, ap, binI, binG, eqOp, true_and, and_self, Nat.reduceEqDiff, Nat.reduceLT, Nat.reduceAdd, if_true, if_false, reduceCtorEq, tt_28]
    refine hK _ ?_
    clear hK K
    refine W.cond (b := false) (by simp only [ev, lk, Nat.reduceEqDiff, if_true, if_false, reduceCtorEq]) (fun h => absurd h (by simp)) (fun _ => ?_)
    refine W.seqK fun K hK => W.regionK tt_ok ?_
    simp only [decide_false, exOps_nil, exOps_cons, exOp_eq, nx_eq, cur_eq, stepQ, ev, ofV, lk, putT, erA, inB, opt, bnd, req, ret, onQ, ap, binI, binG, binF, intF, ldP, ldE, ldC, ldS, Kd.agg, comps, csize, takeI, takeC, dropC, fldF, true_and, and_self, Nat.reduceEqDiff, Nat.reduceLT, Nat.reduceLeDiff, Nat.reduceAdd, Nat.reduceSub, Nat.sub_self, Nat.le_refl, Nat.zero_add, if_true, if_false, Bool.false_eq_true, reduceCtorEq, ne_eq, not_false_eq_true, List.getElem?_cons_zero, List.getElem?_cons_succ, Option.bind_some, Option.map_some, tt_3, tt_23, h0]
    refine hK _ ?_
    clear hK K
    refine W.cond (b := false) (by simp only [ev, lk, Nat.reduceEqDiff, if_true, if_false, reduceCtorEq]) (fun h => absurd h (by simp)) (fun _ => ?_)
    refine W.seqK fun K hK => W.regionK tt_ok ?_
    simp only [decide_false, exOps_nil, exOps_cons, exOp_eq, nx_eq, cur_eq, stepQ, ev, ofV, lk, putT, erA, inB, opt, bnd, req, ret, onQ, ap, binI, binG, binF, intF, ldP, ldE, ldC, ldS, Kd.agg, comps, csize, takeI, takeC, dropC, fldF, true_and, and_self, Nat.reduceEqDiff, Nat.reduceLT, Nat.reduceLeDiff, Nat.reduceAdd, Nat.reduceSub, Nat.sub_self, Nat.le_refl, Nat.zero_add, if_true, if_false, Bool.false_eq_true, reduceCtorEq, ne_eq, not_false_eq_true, List.getElem?_cons_zero, List.getElem?_cons_succ, Option.bind_some, Option.map_some, tt_3, tt_23, h3]
    refine hK _ ?_
    clear hK K
    refine W.cond (b := false) (by simp only [ev, lk, Nat.reduceEqDiff, if_true, if_false, reduceCtorEq]) (fun h => absurd h (by simp)) (fun _ => ?_)
    refine W.seqK fun K hK => W.regionK tt_ok ?_
    simp only [exOps_nil, exOps_cons, exOp_eq, nx_eq, cur_eq, stepQ, ev, ofV, lk, putT, erA, inB, opt, bnd, req, ret, onQ, ap, binI, binG, binF, strF, ldP, ldE, ldC, ldS, Kd.agg, comps, csize, takeI, takeC, dropC, fldF, true_and, and_self, Nat.reduceEqDiff, Nat.reduceLT, Nat.reduceLeDiff, Nat.reduceAdd, Nat.reduceSub, Nat.sub_self, Nat.le_refl, Nat.add_zero, if_true, if_false, Bool.false_eq_true, reduceCtorEq, ne_eq, not_false_eq_true, List.getElem?_cons_zero, Option.bind_some, Option.map_some, tt_9, tt_23, kne]
    refine hK _ ?_
    clear hK K
    refine W.cond (b := false) (by simp only [ev, lk, Nat.reduceEqDiff, if_true, if_false, reduceCtorEq]) (fun h => absurd h (by simp)) (fun _ => ?_)
    refine W.skip ?_
    simp only [thn_normal, inb_normal]
    refine hKb _ ?_
    refine W.seqK fun K hK => W.regionK tt_ok ?_
    simp only [exOps_cons, exOp_eq, exCall_eq, nx_eq, cur_eq, evL, stepQ, ev, ofV, lk, putT, erA, inB, opt, bnd, req, ret, onQ, ap, ldP, ldE, ldC, ldS, Kd.agg, comps, csize, takeI, takeC, dropC, fldF, true_and, and_self, Nat.reduceEqDiff, Nat.reduceLT, Nat.reduceLeDiff, Nat.reduceAdd, Nat.reduceSub, Nat.sub_self, Nat.le_refl, Nat.add_zero, if_true, if_false, Bool.false_eq_true, reduceCtorEq, ne_eq, not_false_eq_true, List.getElem?_cons_zero, Option.bind_some, Option.map_some, tt_9, tt_23]
    refine CallM.mk _ _ (sy_keys 0) ?_
    refine CallK.with [(0, .obj 58 (.agg [.mp 1, .mp 2, .nils])), (1, .mset (.strs [])), (2, .mset (.strs []))] [(368, .vec 9 (.strs [a, b])), (0, .obj 58 (.agg [.mp 1, .mp 2, .sl 369 1 0 (encL (T2)).length])), (1, .mset (.strs (nmL (encL (T2))))), (2, .mset (.strs (tmL (encL (T2))))), (369, .vec 9 (.strs (alL (encL (T2)))))] _ _ ck call59 (by simp only [AV.nmIn, bnd, req, ret, onQ, AV.isTup, isTupL, and_true, true_and, and_self, Bool.false_eq_true, List.append_nil, vw.vwL, vw, AV.free, Bool.or_self]; all_goals (and_intros <;> first | exact AV.subL_refl _ | omega | (simp [AV.sub, entsFree, Ent.free, Row.free]; done) | rfl | (simp [AV.subL_refl]; done))) (by simp [leL, lk]) (by intro n hn; first | (left; revert hn; simp [Nm, lk]; done) | (right; revert hn; simp only [Nm, lk]; split <;> simp <;> omega) | (by_cases h1 : Nm [(0, .obj 58 (.agg [.mp 1, .mp 2, .nils])), (1, .mset (.strs [])), (2, .mset (.strs []))] n; exact .inl h1; right; revert hn h1; simp only [Nm, lk]; split <;> (try split) <;> (try split) <;> (try split) <;> (try simp) <;> (try omega))) (by simp [entsIn, Ent.nmIn, AV.nmIn, AV.nmInL, Nm, lk]) ?_
    simp only [callDel, exOps_nil, exOps_cons, exOp_eq, nx_eq, cur_eq, stepQ, ev, lk, putT, erA, inB, opt, ret, onQ, ap, up, er, true_and, Nat.reduceEqDiff, Nat.reduceLT, Nat.reduceAdd, if_true, if_false, reduceCtorEq, List.nil_append, List.cons_append, List.map_cons, List.map_nil, List.reverse_cons, List.reverse_nil]
    refine hK _ ?_
    clear hK K
    refine W.seqK fun Kx hKx => ?_
    have hl2 : ((2 : Nat) : Int) = 2 := rfl
    refine W.seqK fun K hK => W.regionK tt_ok ?_
    simp only [decide_false, exOps_nil, exOps_cons, exOp_eq, exCall_eq, nx_eq, cur_eq, evL, stepQ, ev, ofV, lk, putT, erA, inB, opt, bnd, req, ret, onQ, ap, binI, binG, binF, intF, bltQ, bltV, lenF, true_and, and_self, or_false, Nat.reduceEqDiff, Nat.reduceLT, Nat.reduceAdd, Int.reduceLT, if_true, if_false, reduceCtorEq, List.getElem?_cons_zero, Option.bind_some, Option.map_some, tt_29, hl2]
    refine hK _ ?_
    clear hK K
    refine W.cond (b := false) (by simp only [ev, lk, Nat.reduceEqDiff, if_true, if_false, reduceCtorEq]) (fun h => absurd h (by simp)) (fun _ => W.skip ?_)
    simp only [thn_normal]
    refine hKx _ ?_
    refine W.seqK fun K hK => W.drawK [⟨0, false, [], false⟩, ⟨0, false, [0], false⟩, ⟨0, false, [0, 1], false⟩, ⟨0, false, [], false⟩, ⟨0, false, [3], false⟩, ⟨0, false, [3, 4], false⟩, ⟨0, false, [0, 1, 2, 3, 4, 5], false⟩, ⟨0, false, [], false⟩, ⟨0, true, [7], true⟩, ⟨0, true, [7, 8], true⟩, ⟨3, false, [0, 1, 2, 3, 4, 5, 6], false⟩, ⟨0, false, [0, 1, 2, 3, 4, 5, 6, 7, 8, 9, 10], false⟩, ⟨0, false, [0, 1, 2, 3, 4, 5, 6, 7, 8, 9, 10, 11], false⟩] mix tt_ok (by kernel_rfl) ?_
    simp only [decide_true, decide_false, Bool.or_false, List.contains_cons, List.contains_nil, Nat.reduceBEq, exOp_eq, exD_nil, exD_cons, nxD_eq, cur_eq, flI, flE, hiE, ownB, lowL, evP, stepQ, ev, ofV, lk, putT, erA, inB, opt, bnd, req, ret, onQ, ap, up, er, AV.isTup, AV.isAgg, binI, binG, binF, intF, Kd.elem, ixA, asI, ldP, ldE, ldC, ldS, Kd.agg, comps, szL, csize, takeI, takeC, dropC, stP, stE, stC, stS, fldF, bldF, bldS, and_true, true_and, and_self, and_false, Nat.reduceEqDiff, Nat.reduceLT, Nat.reduceLeDiff, Nat.reduceAdd, Nat.reduceSub, Nat.reduceDiv, Int.reduceLT, Int.reduceLE, Int.reduceToNat, Nat.sub_self, Nat.le_refl, Nat.add_zero, Nat.zero_add, if_true, if_false, Bool.false_eq_true, reduceCtorEq, ne_eq, not_false_eq_true, List.getElem?_cons_zero, List.getElem?_cons_succ, Option.bind_some, Option.map_some, List.append_nil, List.nil_append, List.cons_append, tt_3, tt_9, tt_23, tt_29, hw, hl2, g0, g1, Int.toNat_zero]
    refine ⟨by simp, by rfl, by simp, ?_⟩
    refine hK _ ?_
    clear hK K
    refine W.ret ?_
    simp only [fin_ret, finB, resQ, resV, leL, AV.nmIn, AV.nmInL, entsIn, lk, opt, bnd, req, ret, onQ, AV.isTup, ldP, ldE, ldC, ldS, Kd.agg, comps, csize, takeI, takeC, dropC, and_true, true_and, and_self, Nat.reduceEqDiff, Nat.reduceLeDiff, Nat.reduceSub, Nat.sub_self, Nat.le_refl, if_true, if_false, reduceCtorEq, Option.bind_some, Option.map_some, tt_23]
    simp [Nm, lk, Ent.nmIn, Row.nmIn, AV.nmIn, AV.nmInL]
  · simp only [tabS_ne 3 hT, tbX] at ck ⊢
    simp [AV.map, AV.mapL, enMap, Ent.map, Row.map, swp] at ck
    generalize syT T k sNext 2 = T2 at *
    rw [hsx] at ck
    rw [cV]
    have h0 : ¬ n < 0 := by omega
    have h3 : ¬ 1000 ≤ n := by omega
    have kne : (k.toList == ({ data := #[] } : ByteArray).toList) = false := by rw [toL_beq, decide_eq_false_iff_not]; exact hk0
    rw [cV]
    refine FnR.of_walk (m := 45) (n0 := 16) tt_ok Try.func12 rfl rfl (by simp) (by simp [nmH]) ?_
    rw [show Try.f12.results.toList = [.cell 4 23, .tmp 5, .tmp 6] from rfl]
    refine W.seqK fun K hK => W.regionK tt_ok ?_
    simp only [exOps_nil, exOps_cons, exOp_eq, nx_eq, cur_eq, stepQ, ev, ofV, lk, parT, putT, erA, inB, opt, req, ret, onQ, ap, up, er, AV.isTup, true_and, and_self, Nat.reduceEqDiff, Nat.reduceLT, Nat.reduceAdd, Nat.zero_add, if_true, if_false, reduceCtorEq, tt_23]
    refine hK _ ?_
    clear hK K
    refine W.seqK fun Kb hKb => ?_
    refine W.blockK ?_
    refine W.seqK fun K hK => W.regionK tt_ok ?_
    simp only [exOps_nil, exOps_cons, exOp_eq, nx_eq, cur_eq, stepQ, ev, ofV, lk, putT, erA, inB, opt, bnd, req, ret, onQ, ap, binI, binG, eqOp, true_and, and_self, Nat.reduceEqDiff, Nat.reduceLT, Nat.reduceAdd, if_true, if_false, reduceCtorEq, tt_28]
    refine hK _ ?_
    clear hK K
    refine W.cond (b := false) (by simp only [ev, lk, Nat.reduceEqDiff, if_true, if_false, reduceCtorEq]) (fun h => absurd h (by simp)) (fun _ => ?_)
    refine W.seqK fun K hK => W.regionK tt_ok ?_
    simp only [decide_false, exOps_nil, exOps_cons, exOp_eq, nx_eq, cur_eq, stepQ, ev, ofV, lk, putT, erA, inB, opt, bnd, req, ret, onQ, ap, binI, binG, binF, intF, ldP, ldE, ldC, ldS, Kd.agg, comps, csize, takeI, takeC, dropC, fldF, true_and, and_self, Nat.reduceEqDiff, Nat.reduceLT, Nat.reduceLeDiff, Nat.reduceAdd, Nat.reduceSub, Nat.sub_self, Nat.le_refl, Nat.zero_add, if_true, if_false, Bool.false_eq_true, reduceCtorEq, ne_eq, not_false_eq_true, List.getElem?_cons_zero, List.getElem?_cons_succ, Option.bind_some, Option.map_some, tt_3, tt_23, h0]
    refine hK _ ?_
    clear hK K
    refine W.cond (b := false) (by simp only [ev, lk, Nat.reduceEqDiff, if_true, if_false, reduceCtorEq]) (fun h => absurd h (by simp)) (fun _ => ?_)
    refine W.seqK fun K hK => W.regionK tt_ok ?_
    simp only [decide_false, exOps_nil, exOps_cons, exOp_eq, nx_eq, cur_eq, stepQ, ev, ofV, lk, putT, erA, inB, opt, bnd, req, ret, onQ, ap, binI, binG, binF, intF, ldP, ldE, ldC, ldS, Kd.agg, comps, csize, takeI, takeC, dropC, fldF, true_and, and_self, Nat.reduceEqDiff, Nat.reduceLT, Nat.reduceLeDiff, Nat.reduceAdd, Nat.reduceSub, Nat.sub_self, Nat.le_refl, Nat.zero_add, if_true, if_false, Bool.false_eq_true, reduceCtorEq, ne_eq, not_false_eq_true, List.getElem?_cons_zero, List.getElem?_cons_succ, Option.bind_some, Option.map_some, tt_3, tt_23, h3]
    refine hK _ ?_
    clear hK K
    refine W.cond (b := false) (by simp only [ev, lk, Nat.reduceEqDiff, if_true, if_false, reduceCtorEq]) (fun h => absurd h (by simp)) (fun _ => ?_)
    refine W.seqK fun K hK => W.regionK tt_ok ?_
    simp only [exOps_nil, exOps_cons, exOp_eq, nx_eq, cur_eq, stepQ, ev, ofV, lk, putT, erA, inB, opt, bnd, req, ret, onQ, ap, binI, binG, binF, strF, ldP, ldE, ldC, ldS, Kd.agg, comps, csize, takeI, takeC, dropC, fldF, true_and, and_self, Nat.reduceEqDiff, Nat.reduceLT, Nat.reduceLeDiff, Nat.reduceAdd, Nat.reduceSub, Nat.sub_self, Nat.le_refl, Nat.add_zero, if_true, if_false, Bool.false_eq_true, reduceCtorEq, ne_eq, not_false_eq_true, List.getElem?_cons_zero, Option.bind_some, Option.map_some, tt_9, tt_23, kne]
    refine hK _ ?_
    clear hK K
    refine W.cond (b := false) (by simp only [ev, lk, Nat.reduceEqDiff, if_true, if_false, reduceCtorEq]) (fun h => absurd h (by simp)) (fun _ => ?_)
    refine W.skip ?_
    simp only [thn_normal, inb_normal]
    refine hKb _ ?_
    refine W.seqK fun K hK => W.regionK tt_ok ?_
    simp only [exOps_cons, exOp_eq, exCall_eq, nx_eq, cur_eq, evL, stepQ, ev, ofV, lk, putT, erA, inB, opt, bnd, req, ret, onQ, ap, ldP, ldE, ldC, ldS, Kd.agg, comps, csize, takeI, takeC, dropC, fldF, true_and, and_self, Nat.reduceEqDiff, Nat.reduceLT, Nat.reduceLeDiff, Nat.reduceAdd, Nat.reduceSub, Nat.sub_self, Nat.le_refl, Nat.add_zero, if_true, if_false, Bool.false_eq_true, reduceCtorEq, ne_eq, not_false_eq_true, List.getElem?_cons_zero, Option.bind_some, Option.map_some, tt_9, tt_23]
    refine CallM.mk _ _ (sy_keys 0) ?_
    refine CallK.with [(0, .obj 58 (.agg [.mp 1, .mp 2, .sl 3 1 0 (encL (T)).length])), (1, .mset (.strs (nmL (encL (T))))), (2, .mset (.strs (tmL (encL (T))))), (3, .vec 9 (.strs (alL (encL (T)))))] [(368, .vec 9 (.strs [a, b])), (0, .obj 58 (.agg [.mp 1, .mp 2, .sl 369 1 0 (encL (T2)).length])), (1, .mset (.strs (nmL (encL (T2))))), (2, .mset (.strs (tmL (encL (T2))))), (369, .vec 9 (.strs (alL (encL (T2)))))] _ _ ck call59 (by simp only [AV.nmIn, bnd, req, ret, onQ, AV.isTup, isTupL, and_true, true_and, and_self, Bool.false_eq_true, List.append_nil, vw.vwL, vw, AV.free, Bool.or_self]; all_goals (and_intros <;> first | exact AV.subL_refl _ | omega | (simp [AV.sub, entsFree, Ent.free, Row.free]; done) | rfl | (simp [AV.subL_refl]; done))) (by simp [leL, lk]) (by intro n hn; first | (left; revert hn; simp [Nm, lk]; done) | (right; revert hn; simp only [Nm, lk]; split <;> simp <;> omega) | (by_cases h1 : Nm [(0, .obj 58 (.agg [.mp 1, .mp 2, .sl 3 1 0 (encL (T)).length])), (1, .mset (.strs (nmL (encL (T))))), (2, .mset (.strs (tmL (encL (T))))), (3, .vec 9 (.strs (alL (encL (T)))))] n; exact .inl h1; right; revert hn h1; simp only [Nm, lk]; split <;> (try split) <;> (try split) <;> (try split) <;> (try simp) <;> (try omega))) (by simp [entsIn, Ent.nmIn, Row.nmIn, AV.nmIn, AV.nmInL, Nm, lk]) ?_
    simp only [callDel, exOps_nil, exOps_cons, exOp_eq, nx_eq, cur_eq, stepQ, ev, lk, putT, erA, inB, opt, ret, onQ, ap, up, er, true_and, Nat.reduceEqDiff, Nat.reduceLT, Nat.reduceAdd, if_true, if_false, reduceCtorEq, List.nil_append, List.cons_append, List.map_cons, List.map_nil, List.reverse_cons, List.reverse_nil]
    refine hK _ ?_
    clear hK K
    refine W.seqK fun Kx hKx => ?_
    have hl2 : ((2 : Nat) : Int) = 2 := rfl
    refine W.seqK fun K hK => W.regionK tt_ok ?_
    simp only [decide_false, exOps_nil, exOps_cons, exOp_eq, exCall_eq, nx_eq, cur_eq, evL, stepQ, ev, ofV, lk, putT, erA, inB, opt, bnd, req, ret, onQ, ap, binI, binG, binF, intF, bltQ, bltV, lenF, true_and, and_self, or_false, Nat.reduceEqDiff, Nat.reduceLT, Nat.reduceAdd, Int.reduceLT, if_true, if_false, reduceCtorEq, List.getElem?_cons_zero, Option.bind_some, Option.map_some, tt_29, hl2]
    refine hK _ ?_
    clear hK K
    refine W.cond (b := false) (by simp only [ev, lk, Nat.reduceEqDiff, if_true, if_false, reduceCtorEq]) (fun h => absurd h (by simp)) (fun _ => W.skip ?_)
    simp only [thn_normal]
    refine hKx _ ?_
    refine W.seqK fun K hK => W.drawK [⟨0, false, [], false⟩, ⟨0, false, [0], false⟩, ⟨0, false, [0, 1], false⟩, ⟨0, false, [], false⟩, ⟨0, false, [3], false⟩, ⟨0, false, [3, 4], false⟩, ⟨0, false, [0, 1, 2, 3, 4, 5], false⟩, ⟨0, false, [], false⟩, ⟨0, true, [7], true⟩, ⟨0, true, [7, 8], true⟩, ⟨3, false, [0, 1, 2, 3, 4, 5, 6], false⟩, ⟨0, false, [0, 1, 2, 3, 4, 5, 6, 7, 8, 9, 10], false⟩, ⟨0, false, [0, 1, 2, 3, 4, 5, 6, 7, 8, 9, 10, 11], false⟩] mix tt_ok (by kernel_rfl) ?_
    simp only [decide_true, decide_false, Bool.or_false, List.contains_cons, List.contains_nil, Nat.reduceBEq, exOp_eq, exD_nil, exD_cons, nxD_eq, cur_eq, flI, flE, hiE, ownB, lowL, evP, stepQ, ev, ofV, lk, putT, erA, inB, opt, bnd, req, ret, onQ, ap, up, er, AV.isTup, AV.isAgg, binI, binG, binF, intF, Kd.elem, ixA, asI, ldP, ldE, ldC, ldS, Kd.agg, comps, szL, csize, takeI, takeC, dropC, stP, stE, stC, stS, fldF, bldF, bldS, and_true, true_and, and_self, and_false, Nat.reduceEqDiff, Nat.reduceLT, Nat.reduceLeDiff, Nat.reduceAdd, Nat.reduceSub, Nat.reduceDiv, Int.reduceLT, Int.reduceLE, Int.reduceToNat, Nat.sub_self, Nat.le_refl, Nat.add_zero, Nat.zero_add, if_true, if_false, Bool.false_eq_true, reduceCtorEq, ne_eq, not_false_eq_true, List.getElem?_cons_zero, List.getElem?_cons_succ, Option.bind_some, Option.map_some, List.append_nil, List.nil_append, List.cons_append, tt_3, tt_9, tt_23, tt_29, hw, hl2, g0, g1, Int.toNat_zero]
    refine ⟨by simp, by rfl, by simp, ?_⟩
    refine hK _ ?_
    clear hK K
    refine W.ret ?_
    simp only [fin_ret, finB, resQ, resV, leL, AV.nmIn, AV.nmInL, entsIn, lk, opt, bnd, req, ret, onQ, AV.isTup, ldP, ldE, ldC, ldS, Kd.agg, comps, csize, takeI, takeC, dropC, and_true, true_and, and_self, Nat.reduceEqDiff, Nat.reduceLeDiff, Nat.reduceSub, Nat.sub_self, Nat.le_refl, if_true, if_false, reduceCtorEq, Option.bind_some, Option.map_some, tt_23]
    simp [Nm, lk, Ent.nmIn, Row.nmIn, AV.nmIn, AV.nmInL]
theorem call12 : Callable Try.prog 12 := ⟨_, Try.func12, by kernel_rfl, by kernel_rfl⟩
end Go.Proofs.Ytbefcdgjainflaa
