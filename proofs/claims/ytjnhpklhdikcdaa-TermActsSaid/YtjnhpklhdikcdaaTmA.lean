/- Terms: the first functions. -/
import Derived.Test.YtjnhpklhdikcdaaTmTy
import Derived.Test.YtjnhpklhdikcdaaSxW
-- TT 3 4 5 9 24 28 35 47 51 53
set_option linter.unusedVariables false
set_option linter.unusedSimpArgs false
namespace Go.Proofs.Ytjnhpklhdikcdaa
open Sx
set_option maxRecDepth 100000
set_option maxHeartbeats 1000000
def G : Nat → Option AV := fun _ => none
theorem mix : Try.prog.follows .mixedOrders = true := by kernel_rfl
def eS : ByteArray := { data := #[] }
/-- A table at its beginning. -/
theorem new_fn : FnR Try.prog G 10 [] [] (.ptr 64 0 0 1) [(64, .obj 53 (.agg [.mp 16, .mp 32, .nils])), (16, .mset (.strs [])), (32, .mset (.strs []))] := by
  refine FnR.of_walk (m := 5) (n0 := 0) tt_ok Try.func10 rfl rfl (by simp) (by simp [nmH]) ?_
  rw [show Try.f10.results.toList = [.tmp 0] from rfl]
  refine W.seqK fun K hK => W.regionK tt_ok ?_
  simp only [exOps_nil, exOps_cons, exOp_eq, nx_eq, cur_eq, stepQ, ev, ofV, parT, putT, erA, inB, opt, ret, onQ, ap, true_and, Nat.reduceLT, Nat.zero_add]
  refine hK _ ?_
  clear hK K
  refine W.seqK fun K hK => W.regionK tt_ok ?_
  simp only [exOps_nil, exOps_cons, exOp_eq, nx_eq, cur_eq, evP, stepQ, ev, lk, putT, erA, inB, opt, bnd, req, ret, onQ, ap, up, er, AV.isTup, AV.isAgg, Kd.agg, comps, szL, csize, takeI, takeC, dropC, stC, stS, mkmQ, bldF, bldS, and_true, true_and, and_self, and_false, Nat.reduceEqDiff, Nat.reduceLT, Nat.reduceLeDiff, Nat.reduceAdd, Nat.reduceSub, Nat.sub_self, Nat.le_refl, Nat.add_zero, Nat.zero_add, if_true, if_false, Bool.false_eq_true, reduceCtorEq, List.getElem?_cons_zero, List.getElem?_cons_succ, Option.bind_some, Option.map_some, List.nil_append, List.cons_append, tt_9, tt_51, tt_53]
  refine ⟨by rfl, ?_⟩
  refine hK _ ?_
  clear hK K
  refine W.ret ?_
  simp only [fin_ret, finB, resQ, resV, leL, AV.nmIn, entsIn, lk, opt, bnd, req, ret, onQ, AV.isTup, and_true, true_and, and_self, Nat.reduceEqDiff, if_true, if_false, reduceCtorEq]
  simp [Nm, lk, Ent.nmIn, AV.nmIn, AV.nmInL]
theorem good_nil : FnR Try.prog G 29 [.nilp] [] (.bool false) [] := by
  refine FnR.of_walk (m := 12) (n0 := 0) tt_ok Try.func29 rfl rfl (by simp) (by simp [nmH]) ?_
  rw [show Try.f29.results.toList = [.tmp 2] from rfl]
  refine W.seqK fun K hK => W.regionK tt_ok ?_
  simp only [exOps_nil, exOps_cons, exOp_eq, nx_eq, cur_eq, stepQ, ev, ofV, parT, putT, erA, inB, opt, ret, onQ, ap, true_and, Nat.reduceLT, Nat.zero_add, if_false, reduceCtorEq]
  refine hK _ ?_
  clear hK K
  refine W.seqK fun K hK => W.regionK tt_ok ?_
  simp only [Bool.not_true, ↓gFT, ↓nFT, exOps_nil, exOps_cons, exOp_eq, nx_eq, cur_eq, stepQ, ev, ofV, lk, putT, erA, inB, opt, bnd, req, ret, onQ, ap, binG, eqOp, pickF, true_and, and_self, Nat.reduceEqDiff, Nat.reduceLT, Nat.reduceAdd, if_true, if_false, reduceCtorEq, List.getElem?_cons_zero, List.getElem?_cons_succ, Option.bind_some, tt_24]
  refine hK _ ?_
  clear hK K
  refine W.ret ?_
  simp only [fin_ret, finB, resQ, resV, leL, AV.nmIn, entsIn, lk, opt, bnd, req, ret, onQ, AV.isTup, and_self, Nat.reduceEqDiff, if_true, if_false, reduceCtorEq]
theorem need_fn : FnR Try.prog G 42 [.bool true] [] (.tup []) [] := by
  refine FnR.of_walk (m := 5) (n0 := 0) tt_ok Try.func42 rfl rfl (by simp) (by simp [nmH]) ?_
  rw [show Try.f42.results.toList = [] from rfl]
  refine W.seqK fun K hK => W.regionK tt_ok ?_
  simp only [Bool.not_true, exOps_nil, exOps_cons, exOp_eq, nx_eq, cur_eq, stepQ, ev, lk, parT, putT, erA, inB, opt, bnd, req, ret, onQ, ap, unF, true_and, and_self, Nat.reduceEqDiff, Nat.reduceLT, Nat.reduceAdd, Nat.zero_add, if_true, if_false, reduceCtorEq]
  refine hK _ ?_
  clear hK K
  refine W.cond (b := false) (by simp only [ev, lk, Nat.reduceEqDiff, if_true, if_false, reduceCtorEq]) (fun h => absurd h (by simp)) (fun _ => ?_)
  refine W.skip ?_
  simp only [fin_normal, finB, resQ, resV, leL, AV.nmIn, AV.nmInL, entsIn, ret, onQ, and_self]
theorem call42 : Callable Try.prog 42 := ⟨_, Try.func42, by kernel_rfl, by kernel_rfl⟩
theorem call10 : Callable Try.prog 10 := ⟨_, Try.func10, by kernel_rfl, by kernel_rfl⟩
theorem call29 : Callable Try.prog 29 := ⟨_, Try.func29, by kernel_rfl, by kernel_rfl⟩
end Go.Proofs.Ytjnhpklhdikcdaa
