/- Tables: good, Split, Parts, All. -/
import Derived.Test.YtjnhpklhdikcdaaTmJ
import Derived.Test.YtjnhpklhdikcdaaTmH
-- TT 3 4 5 9 24 28 35 47 51 53 63
set_option linter.unusedVariables false
set_option linter.unusedSimpArgs false
namespace Go.Proofs.Ytjnhpklhdikcdaa
open Sx
set_option maxRecDepth 100000
set_option maxHeartbeats 2000000
/-- A table of these terms: names 0 (the table), 1 and 2 (its maps), 3 (the row of names). -/
def nmL (l : List ByteArray) : List (ByteArray × Kv) := l.zipIdx.map fun p => (p.1, .str (nmS ((p.2 + 1 : Nat) : Int)))
def tmL (l : List ByteArray) : List (ByteArray × Kv) := l.zipIdx.map fun p => (nmS ((p.2 + 1 : Nat) : Int), .str p.1)
def alL (l : List ByteArray) : List ByteArray := (List.range l.length).map fun i => nmS ((i + 1 : Nat) : Int)
def tabE (l : List ByteArray) : Ents := match l with
  | [] => [(0, .obj 53 (.agg [.mp 1, .mp 2, .nils])), (1, .mset (.strs [])), (2, .mset (.strs []))]
  | s :: l => [(0, .obj 53 (.agg [.mp 1, .mp 2, .sl 3 1 0 (l.length + 1)])), (1, .mset (.strs (nmL (s :: l)))), (2, .mset (.strs (tmL (s :: l)))), (3, .vec 9 (.strs (alL (s :: l))))]
theorem good_own (l : List ByteArray) : FnR Try.prog G 29 [.ptr 0 0 0 1] (tabE l) (.bool true) (tabE l) := by
  cases l with
  | nil =>
    simp only [tabE]
    refine FnR.of_walk (m := 12) (n0 := 16) tt_ok Try.func29 rfl rfl (by simp) (by simp [nmH]) ?_
    rw [show Try.f29.results.toList = [.tmp 2] from rfl]
    refine W.seqK fun K hK => W.regionK tt_ok ?_
    simp only [exOps_nil, exOps_cons, exOp_eq, nx_eq, cur_eq, stepQ, ev, ofV, parT, putT, erA, inB, opt, ret, onQ, ap, true_and, Nat.reduceLT, Nat.reduceAdd, if_false, reduceCtorEq]
    refine hK _ ?_
    clear hK K
    refine W.seqK fun K hK => W.regionK tt_ok ?_
    simp only [Bool.not_false, ↓gTT, ↓nTT, exOps_nil, exOps_cons, exOp_eq, nx_eq, cur_eq, stepQ, ev, ofV, lk, putT, erA, inB, opt, bnd, req, ret, onQ, ap, binG, eqOp, pickF, notNil, ldP, ldE, ldC, ldS, Kd.agg, comps, csize, takeI, takeC, dropC, fldF, and_true, true_and, and_self, Nat.reduceEqDiff, Nat.reduceLT, Nat.reduceLeDiff, Nat.reduceAdd, Nat.reduceSub, Nat.sub_self, Nat.le_refl, Nat.add_zero, if_true, if_false, Bool.false_eq_true, reduceCtorEq, ne_eq, not_false_eq_true, List.getElem?_cons_zero, List.getElem?_cons_succ, Option.bind_some, Option.map_some, tt_24, tt_51, tt_53]
    refine hK _ ?_
    clear hK K
    refine W.ret ?_
    simp only [fin_ret, finB, resQ, resV, leL, AV.nmIn, entsIn, lk, opt, bnd, req, ret, onQ, AV.isTup, and_true, true_and, and_self, Nat.reduceEqDiff, if_true, if_false, reduceCtorEq]
    simp [Nm, lk, Ent.nmIn, AV.nmIn, AV.nmInL]
  | cons s l =>
    simp only [tabE]
    generalize nmL (s :: l) = a1
    generalize tmL (s :: l) = a2
    generalize alL (s :: l) = a3
    refine FnR.of_walk (m := 12) (n0 := 16) tt_ok Try.func29 rfl rfl (by simp) (by simp [nmH]) ?_
    rw [show Try.f29.results.toList = [.tmp 2] from rfl]
    refine W.seqK fun K hK => W.regionK tt_ok ?_
    simp only [exOps_nil, exOps_cons, exOp_eq, nx_eq, cur_eq, stepQ, ev, ofV, parT, putT, erA, inB, opt, ret, onQ, ap, true_and, Nat.reduceLT, Nat.reduceAdd, if_false, reduceCtorEq]
    refine hK _ ?_
    clear hK K
    refine W.seqK fun K hK => W.regionK tt_ok ?_
    simp only [Bool.not_false, ↓gTT, ↓nTT, exOps_nil, exOps_cons, exOp_eq, nx_eq, cur_eq, stepQ, ev, ofV, lk, putT, erA, inB, opt, bnd, req, ret, onQ, ap, binG, eqOp, pickF, notNil, ldP, ldE, ldC, ldS, Kd.agg, comps, csize, takeI, takeC, dropC, fldF, and_true, true_and, and_self, Nat.reduceEqDiff, Nat.reduceLT, Nat.reduceLeDiff, Nat.reduceAdd, Nat.reduceSub, Nat.sub_self, Nat.le_refl, Nat.add_zero, if_true, if_false, Bool.false_eq_true, reduceCtorEq, ne_eq, not_false_eq_true, List.getElem?_cons_zero, List.getElem?_cons_succ, Option.bind_some, Option.map_some, tt_24, tt_51, tt_53]
    refine hK _ ?_
    clear hK K
    refine W.ret ?_
    simp only [fin_ret, finB, resQ, resV, leL, AV.nmIn, entsIn, lk, opt, bnd, req, ret, onQ, AV.isTup, and_true, true_and, and_self, Nat.reduceEqDiff, if_true, if_false, reduceCtorEq]
    simp [Nm, lk, Ent.nmIn, Row.nmIn, AV.nmIn, AV.nmInL]
theorem split_fn (kind : Nat) (hk : kind < 256) (l : List ByteArray) (hl : l.length < 256) (hs : ∀ s ∈ l, s.size ≤ 4000) (hz : (encS kind l).size ≤ 30000) : FnR Try.prog G 31 [.str (encS kind l)] [] (.tup [.int .u8 (kind : Nat), lsV l, .int .i64 0]) [] := by
  have c1 := read_fn kind hk l hl hs hz
  generalize encS kind l = s at *
  cases l with
  | nil =>
    simp only [lsV] at *
    refine FnR.of_walkT (m := 19) tt_ok Try.func31 rfl rfl (by simp) ?_
    rw [show Try.f31.results.toList = [.tmp 2, .tmp 3, .tmp 4] from rfl]
    refine W.seqK fun K hK => W.regionK tt_ok ?_
    simp only [exOps_nil, exOps_cons, exOp_eq, nx_eq, cur_eq, stepQ, ev, ofV, parT, putT, erA, inB, opt, ret, onQ, ap, true_and, Nat.reduceEqDiff, Nat.reduceLT, Nat.reduceAdd, Nat.zero_add, if_false, reduceCtorEq]
    refine hK _ ?_
    clear hK K
    refine W.seqK fun K hK => W.regionK tt_ok ?_
    simp only [exOps_cons, exOp_eq, exCall_eq, nx_eq, cur_eq, evL, stepQ, ev, lk, putT, erA, inB, opt, ret, onQ, ap, true_and, Nat.reduceEqDiff, Nat.reduceLT, Nat.reduceAdd, if_true, if_false, reduceCtorEq, Option.bind_some, Option.map_some]
    refine CallK.pure _ _ c1 call36 (by simp only [AV.nmIn, bnd, req, ret, onQ, AV.isTup, isTupL, true_and, and_self, Bool.false_eq_true, List.append_nil, vw.vwL, vw, AV.free, AV.freeL, Bool.or_self]; all_goals (and_intros <;> first | exact AV.subL_refl _ | omega | (simp [AV.sub]; done) | rfl | (simp [AV.subL_refl]; done) | (simp; exact AV.subL_refl _))) ?_
    simp only [exOps_nil, exOps_cons, exOp_eq, nx_eq, cur_eq, stepQ, ev, lk, putT, erA, inB, opt, ret, onQ, ap, true_and, Nat.reduceEqDiff, Nat.reduceLT, Nat.reduceAdd, if_true, if_false, reduceCtorEq, List.getElem?_cons_zero, List.getElem?_cons_succ]
    refine hK _ ?_
    clear hK K
    refine W.seqK fun Kx hKx => ?_
    refine W.seqK fun K hK => W.regionK tt_ok ?_
    simp only [Int.reduceBNe, exOps_nil, exOps_cons, exOp_eq, nx_eq, cur_eq, stepQ, ev, ofV, lk, putT, erA, inB, opt, bnd, req, ret, onQ, ap, binG, binF, intF, true_and, and_self, Nat.reduceEqDiff, Nat.reduceLT, Nat.reduceAdd, if_true, if_false, reduceCtorEq]
    refine hK _ ?_
    clear hK K
    refine W.cond (b := false) (by simp only [ev, lk, Nat.reduceEqDiff, if_true, if_false, reduceCtorEq]) (fun h => absurd h (by simp)) (fun _ => W.skip ?_)
    simp only [thn_normal]
    refine hKx _ ?_
    refine W.seqK fun K hK => W.regionK tt_ok ?_
    simp only [exOps_nil, exOps_cons, exOp_eq, nx_eq, cur_eq, stepQ, ev, ofV, lk, putT, erA, inB, opt, ret, onQ, ap, true_and, Nat.reduceEqDiff, Nat.reduceLT, Nat.reduceAdd, if_true, if_false, reduceCtorEq]
    refine hK _ ?_
    clear hK K
    refine W.ret ?_
    simp only [finT_ret, finTB, resQ, lk, opt, bnd, req, ret, onQ, AV.isTup, true_and, and_self, Nat.reduceEqDiff, if_true, if_false, reduceCtorEq, ne_eq]
    simp [vw, vw.vwL, bnd, req, ret, AV.nmIn]
  | cons a l =>
    simp only [lsV] at *
    refine FnR.of_walkT (m := 19) tt_ok Try.func31 rfl rfl (by simp) ?_
    rw [show Try.f31.results.toList = [.tmp 2, .tmp 3, .tmp 4] from rfl]
    refine W.seqK fun K hK => W.regionK tt_ok ?_
    simp only [exOps_nil, exOps_cons, exOp_eq, nx_eq, cur_eq, stepQ, ev, ofV, parT, putT, erA, inB, opt, ret, onQ, ap, true_and, Nat.reduceEqDiff, Nat.reduceLT, Nat.reduceAdd, Nat.zero_add, if_false, reduceCtorEq]
    refine hK _ ?_
    clear hK K
    refine W.seqK fun K hK => W.regionK tt_ok ?_
    simp only [exOps_cons, exOp_eq, exCall_eq, nx_eq, cur_eq, evL, stepQ, ev, lk, putT, erA, inB, opt, ret, onQ, ap, true_and, Nat.reduceEqDiff, Nat.reduceLT, Nat.reduceAdd, if_true, if_false, reduceCtorEq, Option.bind_some, Option.map_some]
    refine CallK.pure _ _ c1 call36 (by simp only [AV.nmIn, bnd, req, ret, onQ, AV.isTup, isTupL, true_and, and_self, Bool.false_eq_true, List.append_nil, vw.vwL, vw, AV.free, AV.freeL, Bool.or_self]; all_goals (and_intros <;> first | exact AV.subL_refl _ | omega | (simp [AV.sub]; done) | rfl | (simp [AV.subL_refl]; done) | (simp; exact AV.subL_refl _))) ?_
    simp only [exOps_nil, exOps_cons, exOp_eq, nx_eq, cur_eq, stepQ, ev, lk, putT, erA, inB, opt, ret, onQ, ap, true_and, Nat.reduceEqDiff, Nat.reduceLT, Nat.reduceAdd, if_true, if_false, reduceCtorEq, List.getElem?_cons_zero, List.getElem?_cons_succ]
    refine hK _ ?_
    clear hK K
    refine W.seqK fun Kx hKx => ?_
    refine W.seqK fun K hK => W.regionK tt_ok ?_
    simp only [Int.reduceBNe, exOps_nil, exOps_cons, exOp_eq, nx_eq, cur_eq, stepQ, ev, ofV, lk, putT, erA, inB, opt, bnd, req, ret, onQ, ap, binG, binF, intF, true_and, and_self, Nat.reduceEqDiff, Nat.reduceLT, Nat.reduceAdd, if_true, if_false, reduceCtorEq]
    refine hK _ ?_
    clear hK K
    refine W.cond (b := false) (by simp only [ev, lk, Nat.reduceEqDiff, if_true, if_false, reduceCtorEq]) (fun h => absurd h (by simp)) (fun _ => W.skip ?_)
    simp only [thn_normal]
    refine hKx _ ?_
    refine W.seqK fun K hK => W.regionK tt_ok ?_
    simp only [exOps_nil, exOps_cons, exOp_eq, nx_eq, cur_eq, stepQ, ev, ofV, lk, putT, erA, inB, opt, ret, onQ, ap, true_and, Nat.reduceEqDiff, Nat.reduceLT, Nat.reduceAdd, if_true, if_false, reduceCtorEq]
    refine hK _ ?_
    clear hK K
    refine W.ret ?_
    simp only [finT_ret, finTB, resQ, lk, opt, bnd, req, ret, onQ, AV.isTup, true_and, and_self, Nat.reduceEqDiff, if_true, if_false, reduceCtorEq, ne_eq]
    simp [vw, vw.vwL, bnd, req, ret, AV.nmIn]
theorem call31 : Callable Try.prog 31 := ⟨_, Try.func31, by kernel_rfl, by kernel_rfl⟩
end Go.Proofs.Ytjnhpklhdikcdaa
