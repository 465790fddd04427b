/- Terms: the first functions. -/
import Derived.Test.YtbefcdgjainflaaHkA
import Derived.Test.YtbefcdgjainflaaSxW
-- TT 3 4 5 9 50 94 29 39 56 58
set_option linter.unusedVariables false
set_option linter.unusedSectionVars false
set_option linter.unusedSimpArgs false
namespace Go.Proofs.Ytbefcdgjainflaa
open Sx
variable [Inhabited Tabs]
set_option maxRecDepth 100000
set_option maxHeartbeats 1000000
def eS : ByteArray := { data := #[] }
/-- A table at its beginning. -/
theorem new_fn : FnR Try.prog G 16 [] [] (.ptr 64 0 0 1) [(64, .obj 58 (.agg [.mp 16, .mp 32, .nils])), (16, .mset (.strs [])), (32, .mset (.strs []))] := by
  refine FnR.of_walk (m := 5) (n0 := 0) tt_ok Try.func16 rfl rfl (by simp) (by simp [nmH]) ?_
  rw [show Try.f16.results.toList = [.tmp 0] from rfl]
  refine W.seqK fun K hK => W.regionK tt_ok ?_
  simp only [exOps_nil, exOps_cons, exOp_eq, nx_eq, cur_eq, stepQ, ev, ofV, parT, putT, erA, inB, opt, ret, onQ, ap, true_and, Nat.reduceLT, Nat.zero_add]
  refine hK _ ?_
  clear hK K
  refine W.seqK fun K hK => W.regionK tt_ok ?_
  simp only [exOps_nil, exOps_cons, exOp_eq, nx_eq, cur_eq, evP, stepQ, ev, lk, putT, erA, inB, opt, bnd, req, ret, onQ, ap, up, er, AV.isTup, AV.isAgg, Kd.agg, comps, szL, csize, takeI, takeC, dropC, stC, stS, mkmQ, bldF, bldS, and_true, true_and, and_self, and_false, Nat.reduceEqDiff, Nat.reduceLT, Nat.reduceLeDiff, Nat.reduceAdd, Nat.reduceSub, Nat.sub_self, Nat.le_refl, Nat.add_zero, Nat.zero_add, if_true, if_false, Bool.false_eq_true, reduceCtorEq, List.getElem?_cons_zero, List.getElem?_cons_succ, Option.bind_some, Option.map_some, List.nil_append, List.cons_append, tt_9, tt_56, tt_58]
  refine ⟨by rfl, ?_⟩
  refine hK _ ?_
  clear hK K
  refine W.ret ?_
  simp only [fin_ret, finB, resQ, resV, leL, AV.nmIn, entsIn, lk, opt, bnd, req, ret, onQ, AV.isTup, and_true, true_and, and_self, Nat.reduceEqDiff, if_true, if_false, reduceCtorEq]
  simp [Nm, lk, Ent.nmIn, AV.nmIn, AV.nmInL]
theorem good_nil : FnR Try.prog G 35 [.nilp] [] (.bool false) [] := by
  refine FnR.of_walk (m := 12) (n0 := 0) tt_ok Try.func35 rfl rfl (by simp) (by simp [nmH]) ?_
  rw [show Try.f35.results.toList = [.tmp 2] from rfl]
  refine W.seqK fun K hK => W.regionK tt_ok ?_
  simp only [exOps_nil, exOps_cons, exOp_eq, nx_eq, cur_eq, stepQ, ev, ofV, parT, putT, erA, inB, opt, ret, onQ, ap, true_and, Nat.reduceLT, Nat.zero_add, if_false, reduceCtorEq]
  refine hK _ ?_
  clear hK K
  refine W.seqK fun K hK => W.regionK tt_ok ?_
  simp only [Bool.not_true, ↓gFT, ↓nFT, exOps_nil, exOps_cons, exOp_eq, nx_eq, cur_eq, stepQ, ev, ofV, lk, putT, erA, inB, opt, bnd, req, ret, onQ, ap, binI, binG, eqOp, pickF, true_and, and_self, Nat.reduceEqDiff, Nat.reduceLT, Nat.reduceAdd, if_true, if_false, reduceCtorEq, List.getElem?_cons_zero, List.getElem?_cons_succ, Option.bind_some, tt_50]
  refine hK _ ?_
  clear hK K
  refine W.ret ?_
  simp only [fin_ret, finB, resQ, resV, leL, AV.nmIn, entsIn, lk, opt, bnd, req, ret, onQ, AV.isTup, and_self, Nat.reduceEqDiff, if_true, if_false, reduceCtorEq]
theorem call16 : Callable Try.prog 16 := ⟨_, Try.func16, by kernel_rfl, by kernel_rfl⟩
theorem call35 : Callable Try.prog 35 := ⟨_, Try.func35, by kernel_rfl, by kernel_rfl⟩
end Go.Proofs.Ytbefcdgjainflaa
