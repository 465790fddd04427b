/- Tables: good, Split, Parts, All. -/
import Derived.Test.YtbefcdgjainflaaHmJ
-- TT 3 4 5 9 50 94 29 39 56 58 30
set_option linter.unusedVariables false
set_option linter.unusedSectionVars false
set_option linter.unusedSimpArgs false
namespace Go.Proofs.Ytbefcdgjainflaa
open Sx
variable [Inhabited Tabs]
set_option maxRecDepth 100000
set_option maxHeartbeats 2000000
/-- A table of these terms: names 0 (the table), 1 and 2 (its maps), 3 (the row of names). -/
def nmL (l : List ByteArray) : List (ByteArray × Kv) := l.zipIdx.map fun p => (p.1, .str (nmS ((p.2 + 1 : Nat) : Int)))
def tmL (l : List ByteArray) : List (ByteArray × Kv) := l.zipIdx.map fun p => (nmS ((p.2 + 1 : Nat) : Int), .str p.1)
def alL (l : List ByteArray) : List ByteArray := (List.range l.length).map fun i => nmS ((i + 1 : Nat) : Int)
def tabE (l : List ByteArray) : Ents := match l with
  | [] => [(0, .obj 58 (.agg [.mp 1, .mp 2, .nils])), (1, .mset (.strs [])), (2, .mset (.strs []))]
  | s :: l => [(0, .obj 58 (.agg [.mp 1, .mp 2, .sl 3 1 0 (l.length + 1)])), (1, .mset (.strs (nmL (s :: l)))), (2, .mset (.strs (tmL (s :: l)))), (3, .vec 9 (.strs (alL (s :: l))))]
theorem good_own (l : List ByteArray) : FnR Try.prog G 35 [.ptr 0 0 0 1] (tabE l) (.bool true) (tabE l) := by
  cases l with
  | nil =>
    simp only [tabE]
    refine FnR.of_walk (m := 12) (n0 := 16) tt_ok Try.func35 rfl rfl (by simp) (by simp [nmH]) ?_
    rw [show Try.f35.results.toList = [.tmp 2] from rfl]
    refine W.seqK fun K hK => W.regionK tt_ok ?_
    simp only [exOps_nil, exOps_cons, exOp_eq, nx_eq, cur_eq, stepQ, ev, ofV, parT, putT, erA, inB, opt, ret, onQ, ap, true_and, Nat.reduceLT, Nat.reduceAdd, if_false, reduceCtorEq]
    refine hK _ ?_
    clear hK K
    refine W.seqK fun K hK => W.regionK tt_ok ?_
    simp only [Bool.not_false, ↓gTT, ↓nTT, exOps_nil, exOps_cons, exOp_eq, nx_eq, cur_eq, stepQ, ev, ofV, lk, putT, erA, inB, opt, bnd, req, ret, onQ, ap, binI, binG, eqOp, pickF, notNil, ldP, ldE, ldC, ldS, Kd.agg, comps, csize, takeI, takeC, dropC, fldF, and_true, true_and, and_self, Nat.reduceEqDiff, Nat.reduceLT, Nat.reduceLeDiff, Nat.reduceAdd, Nat.reduceSub, Nat.sub_self, Nat.le_refl, Nat.add_zero, if_true, if_false, Bool.false_eq_true, reduceCtorEq, ne_eq, not_false_eq_true, List.getElem?_cons_zero, List.getElem?_cons_succ, Option.bind_some, Option.map_some, tt_50, tt_56, tt_58]
    refine hK _ ?_
    clear hK K
    refine W.ret ?_
    simp only [fin_ret, finB, resQ, resV, leL, AV.nmIn, entsIn, lk, opt, bnd, req, ret, onQ, AV.isTup, and_true, true_and, and_self, Nat.reduceEqDiff, if_true, if_false, reduceCtorEq]
    simp [Nm, lk, Ent.nmIn, AV.nmIn, AV.nmInL]
  | cons s l =>
    simp only [tabE]
    generalize nmL (s :: l) = a1
    generalize tmL (s :: l) = a2
    generalize alL (s :: l) = a3
    refine FnR.of_walk (m := 12) (n0 := 16) tt_ok Try.func35 rfl rfl (by simp) (by simp [nmH]) ?_
    rw [show Try.f35.results.toList = [.tmp 2] from rfl]
    refine W.seqK fun K hK => W.regionK tt_ok ?_
    simp only [exOps_nil, exOps_cons, exOp_eq, nx_eq, cur_eq, stepQ, ev, ofV, parT, putT, erA, inB, opt, ret, onQ, ap, true_and, Nat.reduceLT, Nat.reduceAdd, if_false, reduceCtorEq]
    refine hK _ ?_
    clear hK K
    refine W.seqK fun K hK => W.regionK tt_ok ?_
    simp only [Bool.not_false, ↓gTT, ↓nTT, exOps_nil, exOps_cons, exOp_eq, nx_eq, cur_eq, stepQ, ev, ofV, lk, putT, erA, inB, opt, bnd, req, ret, onQ, ap, binI, binG, eqOp, pickF, notNil, ldP, ldE, ldC, ldS, Kd.agg, comps, csize, takeI, takeC, dropC, fldF, and_true, true_and, and_self, Nat.reduceEqDiff, Nat.reduceLT, Nat.reduceLeDiff, Nat.reduceAdd, Nat.reduceSub, Nat.sub_self, Nat.le_refl, Nat.add_zero, if_true, if_false, Bool.false_eq_true, reduceCtorEq, ne_eq, not_false_eq_true, List.getElem?_cons_zero, List.getElem?_cons_succ, Option.bind_some, Option.map_some, tt_50, tt_56, tt_58]
    refine hK _ ?_
    clear hK K
    refine W.ret ?_
    simp only [fin_ret, finB, resQ, resV, leL, AV.nmIn, entsIn, lk, opt, bnd, req, ret, onQ, AV.isTup, and_true, true_and, and_self, Nat.reduceEqDiff, if_true, if_false, reduceCtorEq]
    simp [Nm, lk, Ent.nmIn, Row.nmIn, AV.nmIn, AV.nmInL]
end Go.Proofs.Ytbefcdgjainflaa
