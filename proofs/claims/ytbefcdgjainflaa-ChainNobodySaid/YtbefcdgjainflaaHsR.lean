/- The answers that the document fixes, of layer 4. -/
import Derived.Test.YtbefcdgjainflaaHsQ
-- TT 3 4 5 9 39 36 66 93 94 96 100 30 82 103
-- TOUCH 48 1
set_option linter.unusedVariables false
set_option linter.unusedSectionVars false
set_option linter.unusedSimpArgs false
namespace Go.Proofs.Ytbefcdgjainflaa
open Sx
variable [Inhabited Tabs]
set_option maxRecDepth 100000
set_option maxHeartbeats 4000000
theorem call44 : Callable Try.prog 44 := ⟨_, Try.func44, by kernel_rfl, by kernel_rfl⟩
theorem call43 : Callable Try.prog 43 := ⟨_, Try.func43, by kernel_rfl, by kernel_rfl⟩
theorem keys_bad (key b : List Int) (n : Int) (hk : key.length = 32) (hn : n < 1 ∨ 3 < n) :
    FnR Try.prog G 43 [.agg [.ints .u8 32 key], .lstI .u8 b, .int .i64 n] [] (.tup [.nils, .int .i64 2]) [] := by
  refine FnR.of_walkT (m := 38) tt_ok Try.func43 rfl rfl (by simp) ?_
  rw [show Try.f43.results.toList = [.tmp 6, .tmp 7] from rfl]
  refine W.seqK fun K hK => W.regionK tt_ok ?_
  simp only [exOps_nil, exOps_cons, exOp_eq, nx_eq, cur_eq, stepQ, ev, ofV, lk, parT, putT, erA, inB, opt, req, ret, onQ, ap, up, er, AV.isTup, true_and, and_self, Nat.reduceEqDiff, Nat.reduceLT, Nat.reduceAdd, Nat.zero_add, if_true, if_false, reduceCtorEq]
  refine hK _ ?_
  clear hK K
  refine W.seqK fun Ky hKy => ?_
  by_cases h1 : n < 1
  · refine W.seqK fun K hK => W.regionK tt_ok ?_
    simp only [↓gTF, ↓nTF, decide_true, exOps_nil, exOps_cons, exOp_eq, nx_eq, cur_eq, stepQ, ev, ofV, lk, putT, erA, inB, opt, bnd, req, ret, onQ, ap, binI, binG, binF, intF, pickF, true_and, and_self, Nat.reduceEqDiff, Nat.reduceLT, Nat.reduceAdd, if_true, if_false, reduceCtorEq, List.getElem?_cons_zero, List.getElem?_cons_succ, Option.bind_some, h1]
    refine hK _ ?_
    clear hK K
    refine W.cond (b := true) (by simp only [ev, lk, Nat.reduceEqDiff, if_true, if_false, reduceCtorEq]) (fun _ => ?_) (fun h => absurd h (by simp))
    refine W.seqK fun K hK => W.regionK tt_ok ?_
    simp only [exOps_nil, exOps_cons, exOp_eq, nx_eq, cur_eq, stepQ, ev, ofV, putT, erA, inB, opt, ret, onQ, ap, true_and, Nat.reduceEqDiff, Nat.reduceLT, Nat.reduceAdd, if_true, if_false, reduceCtorEq]
    refine hK _ ?_
    clear hK K
    refine W.ret ?_
    simp only [finT_ret, finTB, resQ, lk, opt, bnd, req, ret, onQ, AV.isTup, thn_ret, true_and, and_self, Nat.reduceEqDiff, if_true, if_false, reduceCtorEq, ne_eq]
    simp [vw, vw.vwL, bnd, req, ret, AV.nmIn]
  · have h2 : 3 < n := by omega
    refine W.seqK fun K hK => W.regionK tt_ok ?_
    simp only [↓gFF, ↓nFF, decide_true, decide_false, exOps_nil, exOps_cons, exOp_eq, nx_eq, cur_eq, stepQ, ev, ofV, lk, putT, erA, inB, opt, bnd, req, ret, onQ, ap, binI, binG, binF, intF, pickF, and_true, true_and, and_self, Nat.reduceEqDiff, Nat.reduceLT, Nat.reduceAdd, if_true, if_false, reduceCtorEq, List.getElem?_cons_zero, List.getElem?_cons_succ, Option.bind_some, h1, h2]
    refine hK _ ?_
    clear hK K
    refine W.cond (b := true) (by simp only [ev, lk, Nat.reduceEqDiff, if_true, if_false, reduceCtorEq]) (fun _ => ?_) (fun h => absurd h (by simp))
    refine W.seqK fun K hK => W.regionK tt_ok ?_
    simp only [exOps_nil, exOps_cons, exOp_eq, nx_eq, cur_eq, stepQ, ev, ofV, putT, erA, inB, opt, ret, onQ, ap, true_and, Nat.reduceEqDiff, Nat.reduceLT, Nat.reduceAdd, if_true, if_false, reduceCtorEq]
    refine hK _ ?_
    clear hK K
    refine W.ret ?_
    simp only [finT_ret, finTB, resQ, lk, opt, bnd, req, ret, onQ, AV.isTup, thn_ret, true_and, and_self, Nat.reduceEqDiff, if_true, if_false, reduceCtorEq, ne_eq]
    simp [vw, vw.vwL, bnd, req, ret, AV.nmIn]
def jefe : List Int := [74, 101, 102, 101]
def wants : List Int := [119, 104, 97, 116, 32, 100, 111, 32, 121, 97, 32, 119, 97, 110, 116, 32, 102, 111, 114, 32, 110, 111, 116, 104, 105, 110, 103, 63]
end Go.Proofs.Ytbefcdgjainflaa
