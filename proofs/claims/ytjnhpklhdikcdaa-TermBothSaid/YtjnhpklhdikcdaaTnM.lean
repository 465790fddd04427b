/- TermBoth: the walk. -/
import Derived.Test.YtjnhpklhdikcdaaTnL
-- TT 3 4 5 9 22 24 27 28 30 35 41 47 51 53 54 63 74
-- SIMP beq_self_eq_true eSe' viewEL_rep
set_option linter.unusedVariables false
set_option linter.unusedSimpArgs false
namespace Go.Proofs.Ytjnhpklhdikcdaa
open Sx
set_option maxRecDepth 100000
set_option maxHeartbeats 4000000
theorem both_heavy (l : List Ac) (a b : ByteArray) (hl : l.length ≤ 9223372036854775807) (h1 : hvB l = true) : FnR Try.prog G 5 [.lst 6 (l.map acV), .str a, .str b] [] (.bool true) [] := by
  have c1 := heavy_fn l hl
  rw [h1] at c1
  refine FnR.of_walk (m := 115) (n0 := 16) tt_ok Try.func5 rfl rfl (by simp) (by simp [nmH]) ?_
  rw [show Try.f5.results.toList = [.tmp 6] from rfl]
  refine W.seqK fun K hK => W.regionK tt_ok ?_
  simp only [exOps_nil, exOps_cons, exOp_eq, nx_eq, cur_eq, stepQ, ev, ofV, parT, putT, erA, inB, opt, ret, onQ, ap, true_and, Nat.reduceEqDiff, Nat.reduceLT, Nat.reduceAdd, Nat.zero_add, if_false, reduceCtorEq]
  refine hK _ ?_
  clear hK K
  refine W.seqK fun Kx hKx => ?_
  refine W.seqK fun K hK => W.regionK tt_ok ?_
  simp only [exOps_cons, exOp_eq, exCall_eq, evL, ev, inB, true_and, Nat.reduceLT]
  refine CallK.pure _ _ alive_fn call9 (by simp only [ret, onQ, isTupL, true_and, Bool.false_eq_true, List.append_nil, vw.vwL, AV.free]; all_goals (and_intros <;> first | exact AV.subL_refl _ | omega | (simp []; done) | rfl | (simp [AV.subL_refl]; done) | (simp; exact AV.subL_refl _))) ?_
  simp only [Bool.not_true, exOps_nil, exOps_cons, exOp_eq, nx_eq, cur_eq, stepQ, ev, lk, putT, erA, inB, opt, bnd, req, ret, onQ, ap, unF, true_and, and_self, Nat.reduceEqDiff, Nat.reduceLT, Nat.reduceAdd, if_true, if_false, reduceCtorEq]
  refine hK _ ?_
  clear hK K
  refine W.cond (b := false) (by simp only [ev, lk, Nat.reduceEqDiff, if_true, if_false, reduceCtorEq]) (fun h => absurd h (by simp)) (fun _ => W.skip ?_)
  simp only [thn_normal]
  refine hKx _ ?_
  have cn := ((new_fn.rename 64 65).rename 16 66).rename 32 67
  simp [AV.map, AV.mapL, enMap, Ent.map, swp] at cn
  refine W.seqK fun K hK => W.regionK tt_ok ?_
  simp only [exOps_cons, exOp_eq, exCall_eq, evL, ev, inB, true_and, Nat.reduceLT]
  refine CallK.with [] [(65, .obj 53 (.agg [.mp 66, .mp 67, .nils])), (66, .mset (.strs [])), (67, .mset (.strs []))] _ _ cn call10 (by simp only [ret, onQ, isTupL, true_and, Bool.false_eq_true, List.append_nil, vw.vwL, AV.free]; all_goals (and_intros <;> first | exact AV.subL_refl _ | omega | (simp [entsFree, Ent.free]; done) | rfl | (simp [AV.subL_refl]; done))) (by simp [leL]) (by intro n hn; first | (left; revert hn; simp [Nm, lk]; done) | (right; revert hn; simp only [Nm, lk]; split <;> simp <;> omega) | (by_cases h1 : Nm [] n; exact .inl h1; right; revert hn h1; simp only [Nm, lk]; split <;> (try split) <;> (try split) <;> (try split) <;> (try simp) <;> (try omega))) (by simp [entsIn]) ?_
  simp only [callDel, exOps_nil, exOps_cons, exOp_eq, nx_eq, cur_eq, stepQ, ev, lk, putT, erA, inB, opt, ret, onQ, ap, up, er, true_and, Nat.reduceEqDiff, Nat.reduceLT, Nat.reduceAdd, if_true, if_false, reduceCtorEq, List.nil_append, List.cons_append, List.map_cons, List.map_nil, List.reverse_cons, List.reverse_nil]
  refine hK _ ?_
  clear hK K
  refine W.swap 0 65 (by simp [Nm, lk]) ?_
  refine W.swap 1 66 (by simp [Nm, lk, St.swap]) ?_
  refine W.swap 2 67 (by simp [Nm, lk, St.swap]) ?_
  simp [St.swap, tmMap, enMap, swp, AV.map, AV.mapL, Ent.map]
  refine W.seqK fun Kz hKz => ?_
  refine W.seqK fun K hK => W.regionK tt_ok ?_
  simp only [exOps_nil, exOps_cons, exOp_eq, nx_eq, cur_eq, stepQ, ev, ofV, lk, putT, erA, inB, opt, bnd, req, ret, onQ, ap, binG, eqOp, true_and, and_self, Nat.reduceEqDiff, Nat.reduceLT, Nat.reduceAdd, if_true, if_false, reduceCtorEq, tt_24]
  refine hK _ ?_
  clear hK K
  refine W.cond (b := false) (by simp only [ev, lk, Nat.reduceEqDiff, if_true, if_false, reduceCtorEq]) (fun h => absurd h (by simp)) (fun _ => W.skip ?_)
  simp only [thn_normal]
  refine hKz _ ?_
  refine W.seqK fun Ky hKy => ?_
  refine W.seqK fun K hK => W.regionK tt_ok ?_
  simp only [exOps_cons, exOp_eq, exCall_eq, nx_eq, cur_eq, evL, stepQ, ev, lk, putT, erA, inB, opt, ret, onQ, ap, true_and, Nat.reduceEqDiff, Nat.reduceLT, Nat.reduceAdd, if_true, if_false, reduceCtorEq, Option.bind_some, Option.map_some]
  refine CallK.pure _ _ c1 call11 (by simp only [AV.nmIn, bnd, req, ret, onQ, AV.isTup, isTupL, true_and, and_self, Bool.false_eq_true, List.append_nil, vw.vwL, vw, AV.free, Bool.or_self]; all_goals (and_intros <;> first | exact AV.subL_refl _ | omega | (simp [AV.sub]; done) | rfl | (simp [AV.subL_refl]; done) | (simp; exact AV.subL_refl _))) ?_
  simp only [↓gTF, ↓nTF, exOps_nil, exOps_cons, exOp_eq, nx_eq, cur_eq, stepQ, ev, ofV, lk, putT, erA, inB, opt, bnd, req, ret, onQ, ap, pickF, true_and, and_self, Nat.reduceEqDiff, Nat.reduceLT, Nat.reduceAdd, if_true, if_false, reduceCtorEq, List.getElem?_cons_zero, List.getElem?_cons_succ, Option.bind_some]
  refine hK _ ?_
  clear hK K
  refine W.cond (b := true) (by simp only [ev, lk, Nat.reduceEqDiff, if_true, if_false, reduceCtorEq]) (fun _ => ?_) (fun h => absurd h (by simp))
  refine W.seqK fun K hK => W.regionK tt_ok ?_
  simp only [exOps_nil, exOps_cons, exOp_eq, nx_eq, cur_eq, stepQ, ev, ofV, putT, erA, inB, opt, ret, onQ, ap, true_and, Nat.reduceEqDiff, Nat.reduceLT, Nat.reduceAdd, if_true, if_false, reduceCtorEq]
  refine hK _ ?_
  clear hK K
  refine W.ret ?_
  simp only [fin_ret, finB, resQ, resV, leL, AV.nmIn, entsIn, lk, opt, bnd, req, ret, onQ, AV.isTup, thn_ret, and_self, Nat.reduceEqDiff, if_true, if_false, reduceCtorEq]
  done
theorem both_long1 (l : List Ac) (a b : ByteArray) (hl : l.length ≤ 9223372036854775807) (h1 : hvB l = false) (hs : 1000 < a.size) : FnR Try.prog G 5 [.lst 6 (l.map acV), .str a, .str b] [] (.bool true) [] := by
  have c1 := heavy_fn l hl
  rw [h1] at c1
  have hs1 : (1000 : Int) < a.size := by omega
  refine FnR.of_walk (m := 115) (n0 := 16) tt_ok Try.func5 rfl rfl (by simp) (by simp [nmH]) ?_
  rw [show Try.f5.results.toList = [.tmp 6] from rfl]
  refine W.seqK fun K hK => W.regionK tt_ok ?_
  simp only [exOps_nil, exOps_cons, exOp_eq, nx_eq, cur_eq, stepQ, ev, ofV, parT, putT, erA, inB, opt, ret, onQ, ap, true_and, Nat.reduceEqDiff, Nat.reduceLT, Nat.reduceAdd, Nat.zero_add, if_false, reduceCtorEq]
  refine hK _ ?_
  clear hK K
  refine W.seqK fun Kx hKx => ?_
  refine W.seqK fun K hK => W.regionK tt_ok ?_
  simp only [exOps_cons, exOp_eq, exCall_eq, evL, ev, inB, true_and, Nat.reduceLT]
  refine CallK.pure _ _ alive_fn call9 (by simp only [ret, onQ, isTupL, true_and, Bool.false_eq_true, List.append_nil, vw.vwL, AV.free]; all_goals (and_intros <;> first | exact AV.subL_refl _ | omega | (simp []; done) | rfl | (simp [AV.subL_refl]; done) | (simp; exact AV.subL_refl _))) ?_
  simp only [Bool.not_true, exOps_nil, exOps_cons, exOp_eq, nx_eq, cur_eq, stepQ, ev, lk, putT, erA, inB, opt, bnd, req, ret, onQ, ap, unF, true_and, and_self, Nat.reduceEqDiff, Nat.reduceLT, Nat.reduceAdd, if_true, if_false, reduceCtorEq]
  refine hK _ ?_
  clear hK K
  refine W.cond (b := false) (by simp only [ev, lk, Nat.reduceEqDiff, if_true, if_false, reduceCtorEq]) (fun h => absurd h (by simp)) (fun _ => W.skip ?_)
  simp only [thn_normal]
  refine hKx _ ?_
  have cn := ((new_fn.rename 64 65).rename 16 66).rename 32 67
  simp [AV.map, AV.mapL, enMap, Ent.map, swp] at cn
  refine W.seqK fun K hK => W.regionK tt_ok ?_
  simp only [exOps_cons, exOp_eq, exCall_eq, evL, ev, inB, true_and, Nat.reduceLT]
  refine CallK.with [] [(65, .obj 53 (.agg [.mp 66, .mp 67, .nils])), (66, .mset (.strs [])), (67, .mset (.strs []))] _ _ cn call10 (by simp only [ret, onQ, isTupL, true_and, Bool.false_eq_true, List.append_nil, vw.vwL, AV.free]; all_goals (and_intros <;> first | exact AV.subL_refl _ | omega | (simp [entsFree, Ent.free]; done) | rfl | (simp [AV.subL_refl]; done))) (by simp [leL]) (by intro n hn; first | (left; revert hn; simp [Nm, lk]; done) | (right; revert hn; simp only [Nm, lk]; split <;> simp <;> omega) | (by_cases h1 : Nm [] n; exact .inl h1; right; revert hn h1; simp only [Nm, lk]; split <;> (try split) <;> (try split) <;> (try split) <;> (try simp) <;> (try omega))) (by simp [entsIn]) ?_
  simp only [callDel, exOps_nil, exOps_cons, exOp_eq, nx_eq, cur_eq, stepQ, ev, lk, putT, erA, inB, opt, ret, onQ, ap, up, er, true_and, Nat.reduceEqDiff, Nat.reduceLT, Nat.reduceAdd, if_true, if_false, reduceCtorEq, List.nil_append, List.cons_append, List.map_cons, List.map_nil, List.reverse_cons, List.reverse_nil]
  refine hK _ ?_
  clear hK K
  refine W.swap 0 65 (by simp [Nm, lk]) ?_
  refine W.swap 1 66 (by simp [Nm, lk, St.swap]) ?_
  refine W.swap 2 67 (by simp [Nm, lk, St.swap]) ?_
  simp [St.swap, tmMap, enMap, swp, AV.map, AV.mapL, Ent.map]
  refine W.seqK fun Kz hKz => ?_
  refine W.seqK fun K hK => W.regionK tt_ok ?_
  simp only [exOps_nil, exOps_cons, exOp_eq, nx_eq, cur_eq, stepQ, ev, ofV, lk, putT, erA, inB, opt, bnd, req, ret, onQ, ap, binG, eqOp, true_and, and_self, Nat.reduceEqDiff, Nat.reduceLT, Nat.reduceAdd, if_true, if_false, reduceCtorEq, tt_24]
  refine hK _ ?_
  clear hK K
  refine W.cond (b := false) (by simp only [ev, lk, Nat.reduceEqDiff, if_true, if_false, reduceCtorEq]) (fun h => absurd h (by simp)) (fun _ => W.skip ?_)
  simp only [thn_normal]
  refine hKz _ ?_
  refine W.seqK fun Ky hKy => ?_
  refine W.seqK fun K hK => W.regionK tt_ok ?_
  simp only [exOps_cons, exOp_eq, exCall_eq, nx_eq, cur_eq, evL, stepQ, ev, lk, putT, erA, inB, opt, ret, onQ, ap, true_and, Nat.reduceEqDiff, Nat.reduceLT, Nat.reduceAdd, if_true, if_false, reduceCtorEq, Option.bind_some, Option.map_some]
  refine CallK.pure _ _ c1 call11 (by simp only [AV.nmIn, bnd, req, ret, onQ, AV.isTup, isTupL, true_and, and_self, Bool.false_eq_true, List.append_nil, vw.vwL, vw, AV.free, Bool.or_self]; all_goals (and_intros <;> first | exact AV.subL_refl _ | omega | (simp [AV.sub]; done) | rfl | (simp [AV.subL_refl]; done) | (simp; exact AV.subL_refl _))) ?_
  simp only [↓gFF, ↓gTF, ↓nFF, ↓nTF, decide_true, exOps_nil, exOps_cons, exOp_eq, exCall_eq, nx_eq, cur_eq, evL, stepQ, ev, ofV, lk, putT, erA, inB, opt, bnd, req, ret, onQ, ap, binG, binF, intF, pickF, bltQ, bltV, lenF, and_true, true_and, and_self, or_false, Nat.reduceEqDiff, Nat.reduceLT, Nat.reduceAdd, if_true, if_false, reduceCtorEq, List.getElem?_cons_zero, List.getElem?_cons_succ, Option.bind_some, Option.map_some, tt_9, hs1]
  refine hK _ ?_
  clear hK K
  refine W.cond (b := true) (by simp only [ev, lk, Nat.reduceEqDiff, if_true, if_false, reduceCtorEq]) (fun _ => ?_) (fun h => absurd h (by simp))
  refine W.seqK fun K hK => W.regionK tt_ok ?_
  simp only [exOps_nil, exOps_cons, exOp_eq, nx_eq, cur_eq, stepQ, ev, ofV, putT, erA, inB, opt, ret, onQ, ap, true_and, Nat.reduceEqDiff, Nat.reduceLT, Nat.reduceAdd, if_true, if_false, reduceCtorEq]
  refine hK _ ?_
  clear hK K
  refine W.ret ?_
  simp only [fin_ret, finB, resQ, resV, leL, AV.nmIn, entsIn, lk, opt, bnd, req, ret, onQ, AV.isTup, thn_ret, and_self, Nat.reduceEqDiff, if_true, if_false, reduceCtorEq]
  done
theorem both_long2 (l : List Ac) (a b : ByteArray) (hl : l.length ≤ 9223372036854775807) (h1 : hvB l = false) (ha : a.size ≤ 1000) (hs : 1000 < b.size) : FnR Try.prog G 5 [.lst 6 (l.map acV), .str a, .str b] [] (.bool true) [] := by
  have c1 := heavy_fn l hl
  rw [h1] at c1
  have hs1 : (1000 : Int) < b.size := by omega
  have hs2 : ¬ (1000 : Int) < a.size := by omega
  refine FnR.of_walk (m := 115) (n0 := 16) tt_ok Try.func5 rfl rfl (by simp) (by simp [nmH]) ?_
  rw [show Try.f5.results.toList = [.tmp 6] from rfl]
  refine W.seqK fun K hK => W.regionK tt_ok ?_
  simp only [exOps_nil, exOps_cons, exOp_eq, nx_eq, cur_eq, stepQ, ev, ofV, parT, putT, erA, inB, opt, ret, onQ, ap, true_and, Nat.reduceEqDiff, Nat.reduceLT, Nat.reduceAdd, Nat.zero_add, if_false, reduceCtorEq]
  refine hK _ ?_
  clear hK K
  refine W.seqK fun Kx hKx => ?_
  refine W.seqK fun K hK => W.regionK tt_ok ?_
  simp only [exOps_cons, exOp_eq, exCall_eq, evL, ev, inB, true_and, Nat.reduceLT]
  refine CallK.pure _ _ alive_fn call9 (by simp only [ret, onQ, isTupL, true_and, Bool.false_eq_true, List.append_nil, vw.vwL, AV.free]; all_goals (and_intros <;> first | exact AV.subL_refl _ | omega | (simp []; done) | rfl | (simp [AV.subL_refl]; done) | (simp; exact AV.subL_refl _))) ?_
  simp only [Bool.not_true, exOps_nil, exOps_cons, exOp_eq, nx_eq, cur_eq, stepQ, ev, lk, putT, erA, inB, opt, bnd, req, ret, onQ, ap, unF, true_and, and_self, Nat.reduceEqDiff, Nat.reduceLT, Nat.reduceAdd, if_true, if_false, reduceCtorEq]
  refine hK _ ?_
  clear hK K
  refine W.cond (b := false) (by simp only [ev, lk, Nat.reduceEqDiff, if_true, if_false, reduceCtorEq]) (fun h => absurd h (by simp)) (fun _ => W.skip ?_)
  simp only [thn_normal]
  refine hKx _ ?_
  have cn := ((new_fn.rename 64 65).rename 16 66).rename 32 67
  simp [AV.map, AV.mapL, enMap, Ent.map, swp] at cn
  refine W.seqK fun K hK => W.regionK tt_ok ?_
  simp only [exOps_cons, exOp_eq, exCall_eq, evL, ev, inB, true_and, Nat.reduceLT]
  refine CallK.with [] [(65, .obj 53 (.agg [.mp 66, .mp 67, .nils])), (66, .mset (.strs [])), (67, .mset (.strs []))] _ _ cn call10 (by simp only [ret, onQ, isTupL, true_and, Bool.false_eq_true, List.append_nil, vw.vwL, AV.free]; all_goals (and_intros <;> first | exact AV.subL_refl _ | omega | (simp [entsFree, Ent.free]; done) | rfl | (simp [AV.subL_refl]; done))) (by simp [leL]) (by intro n hn; first | (left; revert hn; simp [Nm, lk]; done) | (right; revert hn; simp only [Nm, lk]; split <;> simp <;> omega) | (by_cases h1 : Nm [] n; exact .inl h1; right; revert hn h1; simp only [Nm, lk]; split <;> (try split) <;> (try split) <;> (try split) <;> (try simp) <;> (try omega))) (by simp [entsIn]) ?_
  simp only [callDel, exOps_nil, exOps_cons, exOp_eq, nx_eq, cur_eq, stepQ, ev, lk, putT, erA, inB, opt, ret, onQ, ap, up, er, true_and, Nat.reduceEqDiff, Nat.reduceLT, Nat.reduceAdd, if_true, if_false, reduceCtorEq, List.nil_append, List.cons_append, List.map_cons, List.map_nil, List.reverse_cons, List.reverse_nil]
  refine hK _ ?_
  clear hK K
  refine W.swap 0 65 (by simp [Nm, lk]) ?_
  refine W.swap 1 66 (by simp [Nm, lk, St.swap]) ?_
  refine W.swap 2 67 (by simp [Nm, lk, St.swap]) ?_
  simp [St.swap, tmMap, enMap, swp, AV.map, AV.mapL, Ent.map]
  refine W.seqK fun Kz hKz => ?_
  refine W.seqK fun K hK => W.regionK tt_ok ?_
  simp only [exOps_nil, exOps_cons, exOp_eq, nx_eq, cur_eq, stepQ, ev, ofV, lk, putT, erA, inB, opt, bnd, req, ret, onQ, ap, binG, eqOp, true_and, and_self, Nat.reduceEqDiff, Nat.reduceLT, Nat.reduceAdd, if_true, if_false, reduceCtorEq, tt_24]
  refine hK _ ?_
  clear hK K
  refine W.cond (b := false) (by simp only [ev, lk, Nat.reduceEqDiff, if_true, if_false, reduceCtorEq]) (fun h => absurd h (by simp)) (fun _ => W.skip ?_)
  simp only [thn_normal]
  refine hKz _ ?_
  refine W.seqK fun Ky hKy => ?_
  refine W.seqK fun K hK => W.regionK tt_ok ?_
  simp only [exOps_cons, exOp_eq, exCall_eq, nx_eq, cur_eq, evL, stepQ, ev, lk, putT, erA, inB, opt, ret, onQ, ap, true_and, Nat.reduceEqDiff, Nat.reduceLT, Nat.reduceAdd, if_true, if_false, reduceCtorEq, Option.bind_some, Option.map_some]
  refine CallK.pure _ _ c1 call11 (by simp only [AV.nmIn, bnd, req, ret, onQ, AV.isTup, isTupL, true_and, and_self, Bool.false_eq_true, List.append_nil, vw.vwL, vw, AV.free, Bool.or_self]; all_goals (and_intros <;> first | exact AV.subL_refl _ | omega | (simp [AV.sub]; done) | rfl | (simp [AV.subL_refl]; done) | (simp; exact AV.subL_refl _))) ?_
  simp only [↓gFF, ↓nFF, decide_true, decide_false, exOps_nil, exOps_cons, exOp_eq, exCall_eq, nx_eq, cur_eq, evL, stepQ, ev, ofV, lk, putT, erA, inB, opt, bnd, req, ret, onQ, ap, binG, binF, intF, pickF, bltQ, bltV, lenF, and_true, true_and, and_self, or_false, Nat.reduceEqDiff, Nat.reduceLT, Nat.reduceAdd, if_true, if_false, reduceCtorEq, List.getElem?_cons_zero, List.getElem?_cons_succ, Option.bind_some, Option.map_some, tt_9, hs1, hs2]
  refine hK _ ?_
  clear hK K
  refine W.cond (b := true) (by simp only [ev, lk, Nat.reduceEqDiff, if_true, if_false, reduceCtorEq]) (fun _ => ?_) (fun h => absurd h (by simp))
  refine W.seqK fun K hK => W.regionK tt_ok ?_
  simp only [exOps_nil, exOps_cons, exOp_eq, nx_eq, cur_eq, stepQ, ev, ofV, putT, erA, inB, opt, ret, onQ, ap, true_and, Nat.reduceEqDiff, Nat.reduceLT, Nat.reduceAdd, if_true, if_false, reduceCtorEq]
  refine hK _ ?_
  clear hK K
  refine W.ret ?_
  simp only [fin_ret, finB, resQ, resV, leL, AV.nmIn, entsIn, lk, opt, bnd, req, ret, onQ, AV.isTup, thn_ret, and_self, Nat.reduceEqDiff, if_true, if_false, reduceCtorEq]
  done
theorem both_fn (l : List Ac) (a b : ByteArray) (hl : l.length ≤ 9223372036854775807) (hA : ∀ x ∈ l, okA x) (h1 : hvB l = false) (ha : a.size ≤ 1000) (hb : b.size ≤ 1000) : FnR Try.prog G 5 [.lst 6 (l.map acV), .str a, .str b] [] (.bool true) [] := by
  have c1 := heavy_fn l hl
  rw [h1] at c1
  have hs1 : ¬ (1000 : Int) < a.size := by omega
  have hs2 : ¬ (1000 : Int) < b.size := by omega
  have hn1 := hvB_len h1
  refine FnR.of_walk (m := 115) (n0 := 16) tt_ok Try.func5 rfl rfl (by simp) (by simp [nmH]) ?_
  rw [show Try.f5.results.toList = [.tmp 6] from rfl]
  refine W.seqK fun K hK => W.regionK tt_ok ?_
  simp only [exOps_nil, exOps_cons, exOp_eq, nx_eq, cur_eq, stepQ, ev, ofV, parT, putT, erA, inB, opt, ret, onQ, ap, true_and, Nat.reduceEqDiff, Nat.reduceLT, Nat.reduceAdd, Nat.zero_add, if_false, reduceCtorEq]
  refine hK _ ?_
  clear hK K
  refine W.seqK fun Kx hKx => ?_
  refine W.seqK fun K hK => W.regionK tt_ok ?_
  simp only [exOps_cons, exOp_eq, exCall_eq, evL, ev, inB, true_and, Nat.reduceLT]
  refine CallK.pure _ _ alive_fn call9 (by simp only [ret, onQ, isTupL, true_and, Bool.false_eq_true, List.append_nil, vw.vwL, AV.free]; all_goals (and_intros <;> first | exact AV.subL_refl _ | omega | (simp []; done) | rfl | (simp [AV.subL_refl]; done) | (simp; exact AV.subL_refl _))) ?_
  simp only [Bool.not_true, exOps_nil, exOps_cons, exOp_eq, nx_eq, cur_eq, stepQ, ev, lk, putT, erA, inB, opt, bnd, req, ret, onQ, ap, unF, true_and, and_self, Nat.reduceEqDiff, Nat.reduceLT, Nat.reduceAdd, if_true, if_false, reduceCtorEq]
  refine hK _ ?_
  clear hK K
  refine W.cond (b := false) (by simp only [ev, lk, Nat.reduceEqDiff, if_true, if_false, reduceCtorEq]) (fun h => absurd h (by simp)) (fun _ => W.skip ?_)
  simp only [thn_normal]
  refine hKx _ ?_
  have cn := ((new_fn.rename 64 65).rename 16 66).rename 32 67
  simp [AV.map, AV.mapL, enMap, Ent.map, swp] at cn
  refine W.seqK fun K hK => W.regionK tt_ok ?_
  simp only [exOps_cons, exOp_eq, exCall_eq, evL, ev, inB, true_and, Nat.reduceLT]
  refine CallK.with [] [(65, .obj 53 (.agg [.mp 66, .mp 67, .nils])), (66, .mset (.strs [])), (67, .mset (.strs []))] _ _ cn call10 (by simp only [ret, onQ, isTupL, true_and, Bool.false_eq_true, List.append_nil, vw.vwL, AV.free]; all_goals (and_intros <;> first | exact AV.subL_refl _ | omega | (simp [entsFree, Ent.free]; done) | rfl | (simp [AV.subL_refl]; done))) (by simp [leL]) (by intro n hn; first | (left; revert hn; simp [Nm, lk]; done) | (right; revert hn; simp only [Nm, lk]; split <;> simp <;> omega) | (by_cases h1 : Nm [] n; exact .inl h1; right; revert hn h1; simp only [Nm, lk]; split <;> (try split) <;> (try split) <;> (try split) <;> (try simp) <;> (try omega))) (by simp [entsIn]) ?_
  simp only [callDel, exOps_nil, exOps_cons, exOp_eq, nx_eq, cur_eq, stepQ, ev, lk, putT, erA, inB, opt, ret, onQ, ap, up, er, true_and, Nat.reduceEqDiff, Nat.reduceLT, Nat.reduceAdd, if_true, if_false, reduceCtorEq, List.nil_append, List.cons_append, List.map_cons, List.map_nil, List.reverse_cons, List.reverse_nil]
  refine hK _ ?_
  clear hK K
  refine W.swap 0 65 (by simp [Nm, lk]) ?_
  refine W.swap 1 66 (by simp [Nm, lk, St.swap]) ?_
  refine W.swap 2 67 (by simp [Nm, lk, St.swap]) ?_
  simp [St.swap, tmMap, enMap, swp, AV.map, AV.mapL, Ent.map]
  refine W.seqK fun Kz hKz => ?_
  refine W.seqK fun K hK => W.regionK tt_ok ?_
  simp only [exOps_nil, exOps_cons, exOp_eq, nx_eq, cur_eq, stepQ, ev, ofV, lk, putT, erA, inB, opt, bnd, req, ret, onQ, ap, binG, eqOp, true_and, and_self, Nat.reduceEqDiff, Nat.reduceLT, Nat.reduceAdd, if_true, if_false, reduceCtorEq, tt_24]
  refine hK _ ?_
  clear hK K
  refine W.cond (b := false) (by simp only [ev, lk, Nat.reduceEqDiff, if_true, if_false, reduceCtorEq]) (fun h => absurd h (by simp)) (fun _ => W.skip ?_)
  simp only [thn_normal]
  refine hKz _ ?_
  refine W.seqK fun Ky hKy => ?_
  refine W.seqK fun K hK => W.regionK tt_ok ?_
  simp only [exOps_cons, exOp_eq, exCall_eq, nx_eq, cur_eq, evL, stepQ, ev, lk, putT, erA, inB, opt, ret, onQ, ap, true_and, Nat.reduceEqDiff, Nat.reduceLT, Nat.reduceAdd, if_true, if_false, reduceCtorEq, Option.bind_some, Option.map_some]
  refine CallK.pure _ _ c1 call11 (by simp only [AV.nmIn, bnd, req, ret, onQ, AV.isTup, isTupL, true_and, and_self, Bool.false_eq_true, List.append_nil, vw.vwL, vw, AV.free, Bool.or_self]; all_goals (and_intros <;> first | exact AV.subL_refl _ | omega | (simp [AV.sub]; done) | rfl | (simp [AV.subL_refl]; done) | (simp; exact AV.subL_refl _))) ?_
  simp only [↓gFF, ↓nFF, decide_false, exOps_nil, exOps_cons, exOp_eq, exCall_eq, nx_eq, cur_eq, evL, stepQ, ev, ofV, lk, putT, erA, inB, opt, bnd, req, ret, onQ, ap, binG, binF, intF, pickF, bltQ, bltV, lenF, and_true, true_and, and_self, or_false, Nat.reduceEqDiff, Nat.reduceLT, Nat.reduceAdd, if_true, if_false, reduceCtorEq, List.getElem?_cons_zero, List.getElem?_cons_succ, Option.bind_some, Option.map_some, tt_9, hs1, hs2]
  refine hK _ ?_
  clear hK K
  refine W.cond (b := false) (by simp only [ev, lk, Nat.reduceEqDiff, if_true, if_false, reduceCtorEq]) (fun h => absurd h (by simp)) (fun _ => W.skip ?_)
  simp only [thn_normal]
  refine hKy _ ?_
  refine W.seqK fun Kl hKl => ?_
  refine W.seqK fun K hK => W.regionK tt_ok ?_
  simp only [exOps_nil, exOps_cons, exOp_eq, exCall_eq, nx_eq, cur_eq, evL, stepQ, ev, ofV, lk, putT, erA, inB, opt, bnd, req, ret, onQ, ap, bltQ, bltV, lenF, true_and, and_self, or_false, Nat.reduceEqDiff, Nat.reduceLT, Nat.reduceAdd, if_true, if_false, reduceCtorEq, List.getElem?_cons_zero, Option.bind_some, Option.map_some, tt_22, List.length_map]
  refine hK _ ?_
  clear hK K
  refine W.blockK ?_
  refine W.loopS (fun k : Nat => k ≤ l.length) (fun k => ⟨[(0, .lst 6 (l.map acV)), (1, .str a), (2, .str b), (7, .ptr 0 0 0 1), (37, .lst 6 (l.map acV)), (38, .int .i64 (l.length : Int)), (39, .int .i64 (k : Int))], tabS 3 (tk [] l k), 32, 115⟩) (fun k => l.length - k) 0 (by simp) (by simp [tabS, tk_zero, tabE, wk, leL, lk, nmT, nmE, nmH, AV.nmIn, AV.nmInL, Ent.nmIn]) ?_
  intro k hk K3 hK3
  by_cases hlt : k < l.length
  · have hok0 := okTs_nil
    have hl0 : ([] : Tms').length = 0 := rfl
    have hAa := hA
    have hml : (l.map acV).length = l.length := List.length_map ..
    generalize hT0 : ([] : Tms') = T0 at *
    generalize l = acts at *
    have c := made_fn (tk T0 acts k) (tk_ok hok0 acts k) (by have := tk_len T0 acts k; omega) acts[k] (hAa _ (List.getElem_mem ..))
    rw [← tk_succ T0 acts k hlt] at c
    have he := ac_get acts k hlt
    have l1 : (k : Int) < (acts.length : Nat) := by omega
    have hwk : IntKind.i64.wrap ((k : Int) + 1) = ((k + 1 : Nat) : Int) := wrap_up k (by omega)
    have hup := tk_up (T := T0) (l := acts) hlt
    simp only [acV] at c
    generalize acts[k] = x at *
    generalize mdN (tk T0 acts k) x = r at *
    by_cases hs1 : tk T0 acts (k + 1) = []
    · have hs0 : tk T0 acts k = [] := Classical.byContradiction fun q => hup q hs1
      rw [hs0, hs1, tabS_nil, tabS_nil] at c
      simp only [hs0, tabS_nil, tabE] at c ⊢
      refine W.seqK fun K hK => W.regionK tt_ok ?_
      simp only [decide_true, exOps_nil, exOps_cons, exOp_eq, nx_eq, cur_eq, stepQ, ev, lk, putT, erA, inB, opt, bnd, req, ret, onQ, ap, binG, binF, intF, true_and, and_self, Nat.reduceEqDiff, Nat.reduceLT, Nat.reduceAdd, if_true, if_false, reduceCtorEq, l1]
      refine hK _ ?_
      clear hK K
      refine W.seqK fun K hK => W.cond (b := true) (by simp only [ev, lk, Nat.reduceEqDiff, if_true, if_false, reduceCtorEq]) (fun _ => W.skip ?_) (fun h => absurd h (by simp))
      rw [thn_normal]
      refine hK _ ?_
      clear hK K
      refine W.seqK fun K hK => W.blockK ?_
      refine W.seqK fun K hK => W.regionK tt_ok ?_
      simp only [exOps_nil, exOps_cons, exOp_eq, nx_eq, cur_eq, stepQ, ev, lk, putT, erA, inB, opt, bnd, req, ret, onQ, ap, up, er, AV.isTup, AV.isAgg, Kd.elem, ixA, asI, ldP, ldC, ldS, Kd.agg, comps, szL, csize, takeI, takeC, dropC, stP, stE, stC, stS, and_true, true_and, and_self, Nat.reduceEqDiff, Nat.reduceLT, Nat.reduceLeDiff, Nat.reduceAdd, Nat.reduceSub, Nat.sub_self, Int.toNat_natCast, Nat.le_refl, Nat.add_zero, Nat.zero_add, if_true, if_false, reduceCtorEq, Option.bind_some, Option.map_some, List.append_nil, List.nil_append, tt_22, tt_30, he]
      refine ⟨by rw [hml]; omega, ?_⟩
      refine hK _ ?_
      clear hK K
      refine W.region tt_ok ?_
      simp only [exOps_cons, exOp_eq, exCall_eq, nx_eq, cur_eq, evL, stepQ, ev, lk, putT, erA, inB, opt, bnd, req, ret, onQ, ap, ldP, ldE, ldC, ldS, Kd.agg, comps, csize, takeI, takeC, dropC, true_and, and_self, Nat.reduceEqDiff, Nat.reduceLT, Nat.reduceLeDiff, Nat.reduceAdd, Nat.reduceSub, Nat.sub_self, Nat.le_refl, if_true, if_false, reduceCtorEq, Option.bind_some, Option.map_some, tt_30]
      refine CallK.with [(0, .obj 53 (.agg [.mp 1, .mp 2, .nils])), (1, .mset (.strs [])), (2, .mset (.strs []))] [(0, .obj 53 (.agg [.mp 1, .mp 2, .nils])), (1, .mset (.strs [])), (2, .mset (.strs []))] _ _ c call13 (by simp only [AV.nmIn, bnd, req, ret, onQ, AV.isTup, isTupL, and_true, true_and, and_self, Bool.false_eq_true, List.append_nil, vw.vwL, vw, AV.free, AV.freeL, Bool.or_self]; all_goals (and_intros <;> first | exact AV.subL_refl _ | omega | (simp [AV.sub, entsFree, Ent.free]; done) | rfl | (simp [AV.subL_refl]; done))) (by simp [leL, lk]) (by intro n hn; first | (left; revert hn; simp [Nm, lk]; done) | (right; revert hn; simp only [Nm, lk]; split <;> simp <;> omega) | (by_cases h1 : Nm [(0, .obj 53 (.agg [.mp 1, .mp 2, .nils])), (1, .mset (.strs [])), (2, .mset (.strs []))] n; exact .inl h1; right; revert hn h1; simp only [Nm, lk]; split <;> (try split) <;> (try split) <;> (try split) <;> (try simp) <;> (try omega))) (by simp [entsIn, Ent.nmIn, AV.nmIn, AV.nmInL, Nm, lk]) ?_
      simp only [callDel, exOps_nil, nx_eq, putT, erA, ap, up, er, thn_normal, inb_normal, Nat.reduceEqDiff, Nat.reduceAdd, if_true, if_false, reduceCtorEq, List.nil_append, List.cons_append, List.map_cons, List.map_nil, List.reverse_cons, List.reverse_nil]
      refine hK _ ?_
      refine W.region tt_ok ?_
      simp only [exOps_nil, exOps_cons, exOp_eq, nx_eq, cur_eq, stepQ, ev, ofV, lk, putT, erA, inB, opt, bnd, req, ret, onQ, ap, binG, binF, intF, thn_normal, true_and, and_self, Nat.reduceEqDiff, Nat.reduceLT, Nat.reduceAdd, if_true, if_false, reduceCtorEq, hwk]
      refine hK3 _ (k + 1) 3 144 (by omega) (by omega) (by simp [Nm, lk]) ?_
      simp [tabS, hs1, tabE, St.swap, tmMap, enMap, swp, AV.map, AV.mapL, Ent.map, wk, leL, lk, nmT, nmE, nmH, AV.nmIn, AV.nmInL, Ent.nmIn]
    · by_cases hs0 : tk T0 acts k = []
      · rw [hs0, tabS_nil, tabS_ne 992 hs1] at c
        have c := mv0 992 144 (by omega) (by omega) (by omega) rfl c
        simp only [hs0, tabS_nil, tabE, tbX] at c ⊢
        refine W.seqK fun K hK => W.regionK tt_ok ?_
        simp only [decide_true, exOps_nil, exOps_cons, exOp_eq, nx_eq, cur_eq, stepQ, ev, lk, putT, erA, inB, opt, bnd, req, ret, onQ, ap, binG, binF, intF, true_and, and_self, Nat.reduceEqDiff, Nat.reduceLT, Nat.reduceAdd, if_true, if_false, reduceCtorEq, l1]
        refine hK _ ?_
        clear hK K
        refine W.seqK fun K hK => W.cond (b := true) (by simp only [ev, lk, Nat.reduceEqDiff, if_true, if_false, reduceCtorEq]) (fun _ => W.skip ?_) (fun h => absurd h (by simp))
        rw [thn_normal]
        refine hK _ ?_
        clear hK K
        refine W.seqK fun K hK => W.blockK ?_
        refine W.seqK fun K hK => W.regionK tt_ok ?_
        simp only [exOps_nil, exOps_cons, exOp_eq, nx_eq, cur_eq, stepQ, ev, lk, putT, erA, inB, opt, bnd, req, ret, onQ, ap, up, er, AV.isTup, AV.isAgg, Kd.elem, ixA, asI, ldP, ldC, ldS, Kd.agg, comps, szL, csize, takeI, takeC, dropC, stP, stE, stC, stS, and_true, true_and, and_self, Nat.reduceEqDiff, Nat.reduceLT, Nat.reduceLeDiff, Nat.reduceAdd, Nat.reduceSub, Nat.sub_self, Int.toNat_natCast, Nat.le_refl, Nat.add_zero, Nat.zero_add, if_true, if_false, reduceCtorEq, Option.bind_some, Option.map_some, List.append_nil, List.nil_append, tt_22, tt_30, he]
        refine ⟨by rw [hml]; omega, ?_⟩
        refine hK _ ?_
        clear hK K
        refine W.region tt_ok ?_
        simp only [exOps_cons, exOp_eq, exCall_eq, nx_eq, cur_eq, evL, stepQ, ev, lk, putT, erA, inB, opt, bnd, req, ret, onQ, ap, ldP, ldE, ldC, ldS, Kd.agg, comps, csize, takeI, takeC, dropC, true_and, and_self, Nat.reduceEqDiff, Nat.reduceLT, Nat.reduceLeDiff, Nat.reduceAdd, Nat.reduceSub, Nat.sub_self, Nat.le_refl, if_true, if_false, reduceCtorEq, Option.bind_some, Option.map_some, tt_30]
        refine CallK.with [(0, .obj 53 (.agg [.mp 1, .mp 2, .nils])), (1, .mset (.strs [])), (2, .mset (.strs []))] [(0, .obj 53 (.agg [.mp 1, .mp 2, .sl 144 1 0 (encL (tk T0 acts (k + 1))).length])), (1, .mset (.strs (nmL (encL (tk T0 acts (k + 1)))))), (2, .mset (.strs (tmL (encL (tk T0 acts (k + 1)))))), (144, .vec 9 (.strs (alL (encL (tk T0 acts (k + 1))))))] _ _ c call13 (by simp only [AV.nmIn, bnd, req, ret, onQ, AV.isTup, isTupL, and_true, true_and, and_self, Bool.false_eq_true, List.append_nil, vw.vwL, vw, AV.free, AV.freeL, Bool.or_self]; all_goals (and_intros <;> first | exact AV.subL_refl _ | omega | (simp [AV.sub, entsFree, Ent.free, Row.free]; done) | rfl | (simp [AV.subL_refl]; done))) (by simp [leL, lk]) (by intro n hn; first | (left; revert hn; simp [Nm, lk]; done) | (right; revert hn; simp only [Nm, lk]; split <;> simp <;> omega) | (by_cases h1 : Nm [(0, .obj 53 (.agg [.mp 1, .mp 2, .nils])), (1, .mset (.strs [])), (2, .mset (.strs []))] n; exact .inl h1; right; revert hn h1; simp only [Nm, lk]; split <;> (try split) <;> (try split) <;> (try split) <;> (try simp) <;> (try omega))) (by simp [entsIn, Ent.nmIn, AV.nmIn, AV.nmInL, Nm, lk]) ?_
        simp only [callDel, exOps_nil, nx_eq, putT, erA, ap, up, er, thn_normal, inb_normal, Nat.reduceEqDiff, Nat.reduceAdd, if_true, if_false, reduceCtorEq, List.nil_append, List.cons_append, List.map_cons, List.map_nil, List.reverse_cons, List.reverse_nil]
        refine hK _ ?_
        refine W.region tt_ok ?_
        simp only [exOps_nil, exOps_cons, exOp_eq, nx_eq, cur_eq, stepQ, ev, ofV, lk, putT, erA, inB, opt, bnd, req, ret, onQ, ap, binG, binF, intF, thn_normal, true_and, and_self, Nat.reduceEqDiff, Nat.reduceLT, Nat.reduceAdd, if_true, if_false, reduceCtorEq, hwk]
        refine hK3 _ (k + 1) 3 144 (by omega) (by omega) (by simp [Nm, lk]) ?_
        simp [tabS, hs1, tbX, St.swap, tmMap, enMap, swp, AV.map, AV.mapL, Ent.map, Row.map, wk, leL, lk, nmT, nmE, nmH, AV.nmIn, AV.nmInL, Ent.nmIn, Row.nmIn]
      · rw [tabS_ne 3 hs0, tabS_ne 992 hs1] at c
        have c := mv1 992 144 (by omega) (by omega) (by omega) rfl c
        simp only [tabS_ne 3 hs0, tbX] at c ⊢
        refine W.seqK fun K hK => W.regionK tt_ok ?_
        simp only [decide_true, exOps_nil, exOps_cons, exOp_eq, nx_eq, cur_eq, stepQ, ev, lk, putT, erA, inB, opt, bnd, req, ret, onQ, ap, binG, binF, intF, true_and, and_self, Nat.reduceEqDiff, Nat.reduceLT, Nat.reduceAdd, if_true, if_false, reduceCtorEq, l1]
        refine hK _ ?_
        clear hK K
        refine W.seqK fun K hK => W.cond (b := true) (by simp only [ev, lk, Nat.reduceEqDiff, if_true, if_false, reduceCtorEq]) (fun _ => W.skip ?_) (fun h => absurd h (by simp))
        rw [thn_normal]
        refine hK _ ?_
        clear hK K
        refine W.seqK fun K hK => W.blockK ?_
        refine W.seqK fun K hK => W.regionK tt_ok ?_
        simp only [exOps_nil, exOps_cons, exOp_eq, nx_eq, cur_eq, stepQ, ev, lk, putT, erA, inB, opt, bnd, req, ret, onQ, ap, up, er, AV.isTup, AV.isAgg, Kd.elem, ixA, asI, ldP, ldC, ldS, Kd.agg, comps, szL, csize, takeI, takeC, dropC, stP, stE, stC, stS, and_true, true_and, and_self, Nat.reduceEqDiff, Nat.reduceLT, Nat.reduceLeDiff, Nat.reduceAdd, Nat.reduceSub, Nat.sub_self, Int.toNat_natCast, Nat.le_refl, Nat.add_zero, Nat.zero_add, if_true, if_false, reduceCtorEq, Option.bind_some, Option.map_some, List.append_nil, List.nil_append, tt_22, tt_30, he]
        refine ⟨by rw [hml]; omega, ?_⟩
        refine hK _ ?_
        clear hK K
        refine W.region tt_ok ?_
        simp only [exOps_cons, exOp_eq, exCall_eq, nx_eq, cur_eq, evL, stepQ, ev, lk, putT, erA, inB, opt, bnd, req, ret, onQ, ap, ldP, ldE, ldC, ldS, Kd.agg, comps, csize, takeI, takeC, dropC, true_and, and_self, Nat.reduceEqDiff, Nat.reduceLT, Nat.reduceLeDiff, Nat.reduceAdd, Nat.reduceSub, Nat.sub_self, Nat.le_refl, if_true, if_false, reduceCtorEq, Option.bind_some, Option.map_some, tt_30]
        refine CallK.with [(0, .obj 53 (.agg [.mp 1, .mp 2, .sl 3 1 0 (encL (tk T0 acts k)).length])), (1, .mset (.strs (nmL (encL (tk T0 acts k))))), (2, .mset (.strs (tmL (encL (tk T0 acts k))))), (3, .vec 9 (.strs (alL (encL (tk T0 acts k)))))] [(0, .obj 53 (.agg [.mp 1, .mp 2, .sl 144 1 0 (encL (tk T0 acts (k + 1))).length])), (1, .mset (.strs (nmL (encL (tk T0 acts (k + 1)))))), (2, .mset (.strs (tmL (encL (tk T0 acts (k + 1)))))), (144, .vec 9 (.strs (alL (encL (tk T0 acts (k + 1))))))] _ _ c call13 (by simp only [AV.nmIn, bnd, req, ret, onQ, AV.isTup, isTupL, and_true, true_and, and_self, Bool.false_eq_true, List.append_nil, vw.vwL, vw, AV.free, AV.freeL, Bool.or_self]; all_goals (and_intros <;> first | exact AV.subL_refl _ | omega | (simp [AV.sub, entsFree, Ent.free, Row.free]; done) | rfl | (simp [AV.subL_refl]; done))) (by simp [leL, lk]) (by intro n hn; first | (left; revert hn; simp [Nm, lk]; done) | (right; revert hn; simp only [Nm, lk]; split <;> simp <;> omega) | (by_cases h1 : Nm [(0, .obj 53 (.agg [.mp 1, .mp 2, .sl 3 1 0 (encL (tk T0 acts k)).length])), (1, .mset (.strs (nmL (encL (tk T0 acts k))))), (2, .mset (.strs (tmL (encL (tk T0 acts k))))), (3, .vec 9 (.strs (alL (encL (tk T0 acts k)))))] n; exact .inl h1; right; revert hn h1; simp only [Nm, lk]; split <;> (try split) <;> (try split) <;> (try split) <;> (try simp) <;> (try omega))) (by simp [entsIn, Ent.nmIn, Row.nmIn, AV.nmIn, AV.nmInL, Nm, lk]) ?_
        simp only [callDel, exOps_nil, nx_eq, putT, erA, ap, up, er, thn_normal, inb_normal, Nat.reduceEqDiff, Nat.reduceAdd, if_true, if_false, reduceCtorEq, List.nil_append, List.cons_append, List.map_cons, List.map_nil, List.reverse_cons, List.reverse_nil]
        refine hK _ ?_
        refine W.region tt_ok ?_
        simp only [exOps_nil, exOps_cons, exOp_eq, nx_eq, cur_eq, stepQ, ev, ofV, lk, putT, erA, inB, opt, bnd, req, ret, onQ, ap, binG, binF, intF, thn_normal, true_and, and_self, Nat.reduceEqDiff, Nat.reduceLT, Nat.reduceAdd, if_true, if_false, reduceCtorEq, hwk]
        refine hK3 _ (k + 1) 3 144 (by omega) (by omega) (by simp [Nm, lk]) ?_
        simp [tabS, hs1, tbX, St.swap, tmMap, enMap, swp, AV.map, AV.mapL, Ent.map, Row.map, wk, leL, lk, nmT, nmE, nmH, AV.nmIn, AV.nmInL, Ent.nmIn, Row.nmIn]
  · obtain rfl : k = l.length := by omega
    have l1 : ¬ ((l.length : Nat) : Int) < (l.length : Nat) := by omega
    refine W.seqK fun K hK => W.regionK tt_ok ?_
    simp only [decide_false, exOps_nil, exOps_cons, exOp_eq, nx_eq, cur_eq, stepQ, ev, lk, putT, erA, inB, opt, bnd, req, ret, onQ, ap, binG, binF, intF, true_and, and_self, Nat.reduceEqDiff, Nat.reduceLT, Nat.reduceAdd, if_true, if_false, reduceCtorEq, l1]
    refine hK _ ?_
    clear hK K
    refine W.seqK fun K hK => W.cond (b := false) (by simp only [ev, lk, Nat.reduceEqDiff, if_true, if_false, reduceCtorEq]) (fun h => absurd h (by simp)) (fun _ => W.exit ?_)
    simp only [thn_normal, thn_exit, inb_exit, if_true]
    clear hK K
    refine hKl _ ?_
    have hok1 := tk_ok okTs_nil l l.length
    have hl1 := tk_len [] l l.length
    have hu1 : uniq (tk [] l l.length) := run_uniq _ _ uniq_nil
    simp only [List.length_nil] at hl1
    generalize tk [] l l.length = T1 at *
    obtain ⟨T2, T3, T4, T5, p, q, x, z, ht2, ⟨hp, hT2⟩, d2, d3, d4, d5, d6, hzx, hpq⟩ := both_plain T1 hok1 hu1 (by omega) a b ha hb
    simp only [tbX, eSe'] at d2 d3 d4 d5 d6
    by_cases ht1 : T1 = []
    · have d1 := mv0 992 80 (by omega) (by omega) (by omega) rfl (pubT_01 a (ok1 a (by omega)))
      subst ht1
      rw [putN_nil (ok1 a (by omega))] at hp
      have hT2' : encL T2 = [encS 2 [a]] := by rw [← hT2, putT_nil (ok1 a (by omega))]; rfl
      rw [hp, ← hT2'] at d1
      simp only [tabS_nil, tabE, tbX] at d1 ⊢
      refine W.seqK fun K hK => W.regionK tt_ok ?_
      simp only [exOps_cons, exOp_eq, exCall_eq, nx_eq, cur_eq, evL, stepQ, ev, lk, putT, erA, inB, opt, ret, onQ, ap, true_and, Nat.reduceEqDiff, Nat.reduceLT, Nat.reduceAdd, if_true, if_false, reduceCtorEq, Option.bind_some, Option.map_some]
      refine CallK.with [(0, .obj 53 (.agg [.mp 1, .mp 2, .nils])), (1, .mset (.strs [])), (2, .mset (.strs []))] [(0, .obj 53 (.agg [.mp 1, .mp 2, .sl 80 1 0 (encL T2).length])), (1, .mset (.strs (nmL (encL T2)))), (2, .mset (.strs (tmL (encL T2)))), (80, .vec 9 (.strs (alL (encL T2))))] _ _ d1 call19 (by simp only [AV.nmIn, bnd, req, ret, onQ, AV.isTup, isTupL, and_true, true_and, and_self, Bool.false_eq_true, List.append_nil, vw.vwL, vw, AV.free, Bool.or_self]; all_goals (and_intros <;> first | exact AV.subL_refl _ | omega | (simp [AV.sub, entsFree, Ent.free, Row.free]; done) | rfl | (simp [AV.subL_refl]; done))) (by simp [leL, lk]) (by intro n hn; first | (left; revert hn; simp [Nm, lk]; done) | (right; revert hn; simp only [Nm, lk]; split <;> simp <;> omega) | (by_cases h1 : Nm [(0, .obj 53 (.agg [.mp 1, .mp 2, .nils])), (1, .mset (.strs [])), (2, .mset (.strs []))] n; exact .inl h1; right; revert hn h1; simp only [Nm, lk]; split <;> (try split) <;> (try split) <;> (try split) <;> (try simp) <;> (try omega))) (by simp [entsIn, Ent.nmIn, AV.nmIn, AV.nmInL, Nm, lk]) ?_
      simp only [callDel, exOps_cons, exOp_eq, exCall_eq, nx_eq, cur_eq, evL, stepQ, ev, lk, putT, erA, inB, opt, ret, onQ, ap, up, er, true_and, Nat.reduceEqDiff, Nat.reduceLT, Nat.reduceAdd, if_true, if_false, reduceCtorEq, Option.bind_some, Option.map_some, List.nil_append, List.cons_append, List.map_cons, List.map_nil, List.reverse_cons, List.reverse_nil]
      refine CallK.with [(0, .obj 53 (.agg [.mp 1, .mp 2, .sl 80 1 0 (encL T2).length])), (1, .mset (.strs (nmL (encL T2)))), (2, .mset (.strs (tmL (encL T2)))), (80, .vec 9 (.strs (alL (encL T2))))] [(0, .obj 53 (.agg [.mp 1, .mp 2, .sl 128 1 0 (encL T3).length])), (1, .mset (.strs (nmL (encL T3)))), (2, .mset (.strs (tmL (encL T3)))), (128, .vec 9 (.strs (alL (encL T3))))] _ _ d2 call19 (by simp only [AV.nmIn, bnd, req, ret, onQ, AV.isTup, isTupL, and_true, true_and, and_self, Bool.false_eq_true, List.append_nil, vw.vwL, vw, AV.free, Bool.or_self]; all_goals (and_intros <;> first | exact AV.subL_refl _ | omega | (simp [AV.sub, entsFree, Ent.free, Row.free]; done) | rfl | (simp [AV.subL_refl]; done))) (by simp [leL, lk]) (by intro n hn; first | (left; revert hn; simp [Nm, lk]; done) | (right; revert hn; simp only [Nm, lk]; split <;> simp <;> omega) | (by_cases h1 : Nm [(0, .obj 53 (.agg [.mp 1, .mp 2, .sl 80 1 0 (encL T2).length])), (1, .mset (.strs (nmL (encL T2)))), (2, .mset (.strs (tmL (encL T2)))), (80, .vec 9 (.strs (alL (encL T2))))] n; exact .inl h1; right; revert hn h1; simp only [Nm, lk]; split <;> (try split) <;> (try split) <;> (try split) <;> (try simp) <;> (try omega))) (by simp [entsIn, Ent.nmIn, Row.nmIn, AV.nmIn, AV.nmInL, Nm, lk]) ?_
      simp only [callDel, exOps_nil, exOps_cons, exOp_eq, nx_eq, cur_eq, stepQ, ev, lk, putT, erA, inB, opt, ret, onQ, ap, up, er, true_and, Nat.reduceEqDiff, Nat.reduceLT, Nat.reduceAdd, if_true, if_false, reduceCtorEq, List.nil_append, List.cons_append, List.map_cons, List.map_nil, List.reverse_cons, List.reverse_nil]
      refine hK _ ?_
      clear hK K
      refine W.seqK fun K hK => W.regionK tt_ok ?_
      simp only [exOps_cons, exOp_eq, exCall_eq, nx_eq, cur_eq, evL, stepQ, ev, lk, putT, erA, inB, opt, ret, onQ, ap, true_and, Nat.reduceEqDiff, Nat.reduceLT, Nat.reduceAdd, if_true, if_false, reduceCtorEq, Option.bind_some, Option.map_some]
      refine CallK.with [(0, .obj 53 (.agg [.mp 1, .mp 2, .sl 128 1 0 (encL T3).length])), (1, .mset (.strs (nmL (encL T3)))), (2, .mset (.strs (tmL (encL T3)))), (128, .vec 9 (.strs (alL (encL T3))))] [(0, .obj 53 (.agg [.mp 1, .mp 2, .sl 224 1 0 (encL T4).length])), (1, .mset (.strs (nmL (encL T4)))), (2, .mset (.strs (tmL (encL T4)))), (224, .vec 9 (.strs (alL (encL T4))))] _ _ d3 call21 (by simp only [AV.nmIn, bnd, req, ret, onQ, AV.isTup, isTupL, and_true, true_and, and_self, Bool.false_eq_true, List.append_nil, vw.vwL, vw, AV.free, AV.freeL, Bool.or_self]; all_goals (and_intros <;> first | exact AV.subL_refl _ | omega | (simp [AV.sub, entsFree, Ent.free, Row.free]; done) | rfl | (simp [AV.subL_refl]; done))) (by simp [leL, lk]) (by intro n hn; first | (left; revert hn; simp [Nm, lk]; done) | (right; revert hn; simp only [Nm, lk]; split <;> simp <;> omega) | (by_cases h1 : Nm [(0, .obj 53 (.agg [.mp 1, .mp 2, .sl 128 1 0 (encL T3).length])), (1, .mset (.strs (nmL (encL T3)))), (2, .mset (.strs (tmL (encL T3)))), (128, .vec 9 (.strs (alL (encL T3))))] n; exact .inl h1; right; revert hn h1; simp only [Nm, lk]; split <;> (try split) <;> (try split) <;> (try split) <;> (try simp) <;> (try omega))) (by simp [entsIn, Ent.nmIn, Row.nmIn, AV.nmIn, AV.nmInL, Nm, lk]) ?_
      simp only [callDel, exOps_nil, exOps_cons, exOp_eq, nx_eq, cur_eq, stepQ, ev, lk, putT, erA, inB, opt, ret, onQ, ap, up, er, true_and, Nat.reduceEqDiff, Nat.reduceLT, Nat.reduceAdd, if_true, if_false, reduceCtorEq, List.getElem?_cons_zero, List.getElem?_cons_succ, List.nil_append, List.cons_append, List.map_cons, List.map_nil, List.reverse_cons, List.reverse_nil]
      refine hK _ ?_
      clear hK K
      refine W.seqK fun K hK => W.regionK tt_ok ?_
      simp only [exOps_cons, exOp_eq, exCall_eq, nx_eq, cur_eq, evL, stepQ, ev, lk, putT, erA, inB, opt, ret, onQ, ap, true_and, Nat.reduceEqDiff, Nat.reduceLT, Nat.reduceAdd, if_true, if_false, reduceCtorEq, Option.bind_some, Option.map_some]
      refine CallK.with [(0, .obj 53 (.agg [.mp 1, .mp 2, .sl 224 1 0 (encL T4).length])), (1, .mset (.strs (nmL (encL T4)))), (2, .mset (.strs (tmL (encL T4)))), (224, .vec 9 (.strs (alL (encL T4))))] [(0, .obj 53 (.agg [.mp 1, .mp 2, .sl 368 1 0 (encL T4).length])), (1, .mset (.strs (nmL (encL T4)))), (2, .mset (.strs (tmL (encL T4)))), (368, .vec 9 (.strs (alL (encL T4))))] _ _ d4 call21 (by simp only [AV.nmIn, bnd, req, ret, onQ, AV.isTup, isTupL, and_true, true_and, and_self, Bool.false_eq_true, List.append_nil, vw.vwL, vw, AV.free, AV.freeL, Bool.or_self]; all_goals (and_intros <;> first | exact AV.subL_refl _ | omega | (simp [AV.sub, entsFree, Ent.free, Row.free]; done) | rfl | (simp [AV.subL_refl]; done))) (by simp [leL, lk]) (by intro n hn; first | (left; revert hn; simp [Nm, lk]; done) | (right; revert hn; simp only [Nm, lk]; split <;> simp <;> omega) | (by_cases h1 : Nm [(0, .obj 53 (.agg [.mp 1, .mp 2, .sl 224 1 0 (encL T4).length])), (1, .mset (.strs (nmL (encL T4)))), (2, .mset (.strs (tmL (encL T4)))), (224, .vec 9 (.strs (alL (encL T4))))] n; exact .inl h1; right; revert hn h1; simp only [Nm, lk]; split <;> (try split) <;> (try split) <;> (try split) <;> (try simp) <;> (try omega))) (by simp [entsIn, Ent.nmIn, Row.nmIn, AV.nmIn, AV.nmInL, Nm, lk]) ?_
      simp only [callDel, exOps_nil, exOps_cons, exOp_eq, nx_eq, cur_eq, stepQ, ev, lk, putT, erA, inB, opt, ret, onQ, ap, up, er, true_and, Nat.reduceEqDiff, Nat.reduceLT, Nat.reduceAdd, if_true, if_false, reduceCtorEq, List.getElem?_cons_zero, List.getElem?_cons_succ, List.nil_append, List.cons_append, List.map_cons, List.map_nil, List.reverse_cons, List.reverse_nil]
      refine hK _ ?_
      clear hK K
      refine W.seqK fun K hK => W.regionK tt_ok ?_
      simp only [exOps_cons, exOp_eq, exCall_eq, nx_eq, cur_eq, evL, stepQ, ev, lk, putT, erA, inB, opt, ret, onQ, ap, true_and, Nat.reduceEqDiff, Nat.reduceLT, Nat.reduceAdd, if_true, if_false, reduceCtorEq, Option.bind_some, Option.map_some]
      refine CallK.with [(0, .obj 53 (.agg [.mp 1, .mp 2, .sl 368 1 0 (encL T4).length])), (1, .mset (.strs (nmL (encL T4)))), (2, .mset (.strs (tmL (encL T4)))), (368, .vec 9 (.strs (alL (encL T4))))] [(0, .obj 53 (.agg [.mp 1, .mp 2, .sl 512 1 0 (encL T5).length])), (1, .mset (.strs (nmL (encL T5)))), (2, .mset (.strs (tmL (encL T5)))), (512, .vec 9 (.strs (alL (encL T5))))] _ _ d5 call21 (by simp only [AV.nmIn, bnd, req, ret, onQ, AV.isTup, isTupL, and_true, true_and, and_self, Bool.false_eq_true, List.append_nil, vw.vwL, vw, AV.free, AV.freeL, Bool.or_self]; all_goals (and_intros <;> first | exact AV.subL_refl _ | omega | (simp [AV.sub, entsFree, Ent.free, Row.free]; done) | rfl | (simp [AV.subL_refl]; done))) (by simp [leL, lk]) (by intro n hn; first | (left; revert hn; simp [Nm, lk]; done) | (right; revert hn; simp only [Nm, lk]; split <;> simp <;> omega) | (by_cases h1 : Nm [(0, .obj 53 (.agg [.mp 1, .mp 2, .sl 368 1 0 (encL T4).length])), (1, .mset (.strs (nmL (encL T4)))), (2, .mset (.strs (tmL (encL T4)))), (368, .vec 9 (.strs (alL (encL T4))))] n; exact .inl h1; right; revert hn h1; simp only [Nm, lk]; split <;> (try split) <;> (try split) <;> (try split) <;> (try simp) <;> (try omega))) (by simp [entsIn, Ent.nmIn, Row.nmIn, AV.nmIn, AV.nmInL, Nm, lk]) ?_
      simp only [callDel, exOps_nil, exOps_cons, exOp_eq, nx_eq, cur_eq, stepQ, ev, lk, putT, erA, inB, opt, ret, onQ, ap, up, er, true_and, Nat.reduceEqDiff, Nat.reduceLT, Nat.reduceAdd, if_true, if_false, reduceCtorEq, List.getElem?_cons_zero, List.getElem?_cons_succ, List.nil_append, List.cons_append, List.map_cons, List.map_nil, List.reverse_cons, List.reverse_nil]
      refine hK _ ?_
      clear hK K
      refine W.seqK fun K hK => W.regionK tt_ok ?_
      simp only [exOps_cons, exOp_eq, exCall_eq, nx_eq, cur_eq, evL, stepQ, ev, lk, putT, erA, inB, opt, ret, onQ, ap, true_and, Nat.reduceEqDiff, Nat.reduceLT, Nat.reduceAdd, if_true, if_false, reduceCtorEq, Option.bind_some, Option.map_some]
      refine CallK.with [(0, .obj 53 (.agg [.mp 1, .mp 2, .sl 512 1 0 (encL T5).length])), (1, .mset (.strs (nmL (encL T5)))), (2, .mset (.strs (tmL (encL T5)))), (512, .vec 9 (.strs (alL (encL T5))))] [(0, .obj 53 (.agg [.mp 1, .mp 2, .sl 512 1 0 (encL T5).length])), (1, .mset (.strs (nmL (encL T5)))), (2, .mset (.strs (tmL (encL T5)))), (512, .vec 9 (.strs (alL (encL T5))))] _ _ d6 call21 (by simp only [AV.nmIn, bnd, req, ret, onQ, AV.isTup, isTupL, and_true, true_and, and_self, Bool.false_eq_true, List.append_nil, vw.vwL, vw, AV.free, AV.freeL, Bool.or_self]; all_goals (and_intros <;> first | exact AV.subL_refl _ | omega | (simp [AV.sub, entsFree, Ent.free, Row.free]; done) | rfl | (simp [AV.subL_refl]; done))) (by simp [leL, lk]) (by intro n hn; first | (left; revert hn; simp [Nm, lk]; done) | (right; revert hn; simp only [Nm, lk]; split <;> simp <;> omega) | (by_cases h1 : Nm [(0, .obj 53 (.agg [.mp 1, .mp 2, .sl 512 1 0 (encL T5).length])), (1, .mset (.strs (nmL (encL T5)))), (2, .mset (.strs (tmL (encL T5)))), (512, .vec 9 (.strs (alL (encL T5))))] n; exact .inl h1; right; revert hn h1; simp only [Nm, lk]; split <;> (try split) <;> (try split) <;> (try split) <;> (try simp) <;> (try omega))) (by simp [entsIn, Ent.nmIn, Row.nmIn, AV.nmIn, AV.nmInL, Nm, lk]) ?_
      simp only [callDel, exOps_nil, exOps_cons, exOp_eq, nx_eq, cur_eq, stepQ, ev, lk, putT, erA, inB, opt, ret, onQ, ap, up, er, true_and, Nat.reduceEqDiff, Nat.reduceLT, Nat.reduceAdd, if_true, if_false, reduceCtorEq, List.getElem?_cons_zero, List.getElem?_cons_succ, List.nil_append, List.cons_append, List.map_cons, List.map_nil, List.reverse_cons, List.reverse_nil]
      refine hK _ ?_
      clear hK K
      refine W.seqK fun K hK => W.regionK tt_ok ?_
      simp only [Bool.not_false, ↓gTT, ↓nTT, exOps_nil, exOps_cons, exOp_eq, nx_eq, cur_eq, stepQ, ev, lk, putT, erA, inB, opt, bnd, req, ret, onQ, ap, binG, binF, strF, eqOp, unF, pickF, and_true, true_and, and_self, Nat.reduceEqDiff, Nat.reduceLT, Nat.reduceAdd, if_true, if_false, reduceCtorEq, List.getElem?_cons_zero, List.getElem?_cons_succ, Option.bind_some, tt_4, beq_self_eq_true, hzx, hpq]
      refine hK _ ?_
      clear hK K
      refine W.ret ?_
      simp only [fin_ret, finB, resQ, resV, leL, AV.nmIn, entsIn, lk, opt, bnd, req, ret, onQ, AV.isTup, and_self, Nat.reduceEqDiff, if_true, if_false, reduceCtorEq]
      done
    · have d1 := pubXY a (encL T1) (encL_ne ht1) (by rw [encL_len]; omega) 3 80 (by omega) (by omega) (by omega) (by omega)
      rw [hp, putT_enc, hT2] at d1
      simp only [tabS_ne 3 ht1, tbX] at d1 ⊢
      refine W.seqK fun K hK => W.regionK tt_ok ?_
      simp only [exOps_cons, exOp_eq, exCall_eq, nx_eq, cur_eq, evL, stepQ, ev, lk, putT, erA, inB, opt, ret, onQ, ap, true_and, Nat.reduceEqDiff, Nat.reduceLT, Nat.reduceAdd, if_true, if_false, reduceCtorEq, Option.bind_some, Option.map_some]
      refine CallK.with [(0, .obj 53 (.agg [.mp 1, .mp 2, .sl 3 1 0 (encL T1).length])), (1, .mset (.strs (nmL (encL T1)))), (2, .mset (.strs (tmL (encL T1)))), (3, .vec 9 (.strs (alL (encL T1))))] [(0, .obj 53 (.agg [.mp 1, .mp 2, .sl 80 1 0 (encL T2).length])), (1, .mset (.strs (nmL (encL T2)))), (2, .mset (.strs (tmL (encL T2)))), (80, .vec 9 (.strs (alL (encL T2))))] _ _ d1 call19 (by simp only [AV.nmIn, bnd, req, ret, onQ, AV.isTup, isTupL, and_true, true_and, and_self, Bool.false_eq_true, List.append_nil, vw.vwL, vw, AV.free, Bool.or_self]; all_goals (and_intros <;> first | exact AV.subL_refl _ | omega | (simp [AV.sub, entsFree, Ent.free, Row.free]; done) | rfl | (simp [AV.subL_refl]; done))) (by simp [leL, lk]) (by intro n hn; first | (left; revert hn; simp [Nm, lk]; done) | (right; revert hn; simp only [Nm, lk]; split <;> simp <;> omega) | (by_cases h1 : Nm [(0, .obj 53 (.agg [.mp 1, .mp 2, .sl 3 1 0 (encL T1).length])), (1, .mset (.strs (nmL (encL T1)))), (2, .mset (.strs (tmL (encL T1)))), (3, .vec 9 (.strs (alL (encL T1))))] n; exact .inl h1; right; revert hn h1; simp only [Nm, lk]; split <;> (try split) <;> (try split) <;> (try split) <;> (try simp) <;> (try omega))) (by simp [entsIn, Ent.nmIn, Row.nmIn, AV.nmIn, AV.nmInL, Nm, lk]) ?_
      simp only [callDel, exOps_cons, exOp_eq, exCall_eq, nx_eq, cur_eq, evL, stepQ, ev, lk, putT, erA, inB, opt, ret, onQ, ap, up, er, true_and, Nat.reduceEqDiff, Nat.reduceLT, Nat.reduceAdd, if_true, if_false, reduceCtorEq, Option.bind_some, Option.map_some, List.nil_append, List.cons_append, List.map_cons, List.map_nil, List.reverse_cons, List.reverse_nil]
      refine CallK.with [(0, .obj 53 (.agg [.mp 1, .mp 2, .sl 80 1 0 (encL T2).length])), (1, .mset (.strs (nmL (encL T2)))), (2, .mset (.strs (tmL (encL T2)))), (80, .vec 9 (.strs (alL (encL T2))))] [(0, .obj 53 (.agg [.mp 1, .mp 2, .sl 128 1 0 (encL T3).length])), (1, .mset (.strs (nmL (encL T3)))), (2, .mset (.strs (tmL (encL T3)))), (128, .vec 9 (.strs (alL (encL T3))))] _ _ d2 call19 (by simp only [AV.nmIn, bnd, req, ret, onQ, AV.isTup, isTupL, and_true, true_and, and_self, Bool.false_eq_true, List.append_nil, vw.vwL, vw, AV.free, Bool.or_self]; all_goals (and_intros <;> first | exact AV.subL_refl _ | omega | (simp [AV.sub, entsFree, Ent.free, Row.free]; done) | rfl | (simp [AV.subL_refl]; done))) (by simp [leL, lk]) (by intro n hn; first | (left; revert hn; simp [Nm, lk]; done) | (right; revert hn; simp only [Nm, lk]; split <;> simp <;> omega) | (by_cases h1 : Nm [(0, .obj 53 (.agg [.mp 1, .mp 2, .sl 80 1 0 (encL T2).length])), (1, .mset (.strs (nmL (encL T2)))), (2, .mset (.strs (tmL (encL T2)))), (80, .vec 9 (.strs (alL (encL T2))))] n; exact .inl h1; right; revert hn h1; simp only [Nm, lk]; split <;> (try split) <;> (try split) <;> (try split) <;> (try simp) <;> (try omega))) (by simp [entsIn, Ent.nmIn, Row.nmIn, AV.nmIn, AV.nmInL, Nm, lk]) ?_
      simp only [callDel, exOps_nil, exOps_cons, exOp_eq, nx_eq, cur_eq, stepQ, ev, lk, putT, erA, inB, opt, ret, onQ, ap, up, er, true_and, Nat.reduceEqDiff, Nat.reduceLT, Nat.reduceAdd, if_true, if_false, reduceCtorEq, List.nil_append, List.cons_append, List.map_cons, List.map_nil, List.reverse_cons, List.reverse_nil]
      refine hK _ ?_
      clear hK K
      refine W.seqK fun K hK => W.regionK tt_ok ?_
      simp only [exOps_cons, exOp_eq, exCall_eq, nx_eq, cur_eq, evL, stepQ, ev, lk, putT, erA, inB, opt, ret, onQ, ap, true_and, Nat.reduceEqDiff, Nat.reduceLT, Nat.reduceAdd, if_true, if_false, reduceCtorEq, Option.bind_some, Option.map_some]
      refine CallK.with [(0, .obj 53 (.agg [.mp 1, .mp 2, .sl 128 1 0 (encL T3).length])), (1, .mset (.strs (nmL (encL T3)))), (2, .mset (.strs (tmL (encL T3)))), (128, .vec 9 (.strs (alL (encL T3))))] [(0, .obj 53 (.agg [.mp 1, .mp 2, .sl 224 1 0 (encL T4).length])), (1, .mset (.strs (nmL (encL T4)))), (2, .mset (.strs (tmL (encL T4)))), (224, .vec 9 (.strs (alL (encL T4))))] _ _ d3 call21 (by simp only [AV.nmIn, bnd, req, ret, onQ, AV.isTup, isTupL, and_true, true_and, and_self, Bool.false_eq_true, List.append_nil, vw.vwL, vw, AV.free, AV.freeL, Bool.or_self]; all_goals (and_intros <;> first | exact AV.subL_refl _ | omega | (simp [AV.sub, entsFree, Ent.free, Row.free]; done) | rfl | (simp [AV.subL_refl]; done))) (by simp [leL, lk]) (by intro n hn; first | (left; revert hn; simp [Nm, lk]; done) | (right; revert hn; simp only [Nm, lk]; split <;> simp <;> omega) | (by_cases h1 : Nm [(0, .obj 53 (.agg [.mp 1, .mp 2, .sl 128 1 0 (encL T3).length])), (1, .mset (.strs (nmL (encL T3)))), (2, .mset (.strs (tmL (encL T3)))), (128, .vec 9 (.strs (alL (encL T3))))] n; exact .inl h1; right; revert hn h1; simp only [Nm, lk]; split <;> (try split) <;> (try split) <;> (try split) <;> (try simp) <;> (try omega))) (by simp [entsIn, Ent.nmIn, Row.nmIn, AV.nmIn, AV.nmInL, Nm, lk]) ?_
      simp only [callDel, exOps_nil, exOps_cons, exOp_eq, nx_eq, cur_eq, stepQ, ev, lk, putT, erA, inB, opt, ret, onQ, ap, up, er, true_and, Nat.reduceEqDiff, Nat.reduceLT, Nat.reduceAdd, if_true, if_false, reduceCtorEq, List.getElem?_cons_zero, List.getElem?_cons_succ, List.nil_append, List.cons_append, List.map_cons, List.map_nil, List.reverse_cons, List.reverse_nil]
      refine hK _ ?_
      clear hK K
      refine W.seqK fun K hK => W.regionK tt_ok ?_
      simp only [exOps_cons, exOp_eq, exCall_eq, nx_eq, cur_eq, evL, stepQ, ev, lk, putT, erA, inB, opt, ret, onQ, ap, true_and, Nat.reduceEqDiff, Nat.reduceLT, Nat.reduceAdd, if_true, if_false, reduceCtorEq, Option.bind_some, Option.map_some]
      refine CallK.with [(0, .obj 53 (.agg [.mp 1, .mp 2, .sl 224 1 0 (encL T4).length])), (1, .mset (.strs (nmL (encL T4)))), (2, .mset (.strs (tmL (encL T4)))), (224, .vec 9 (.strs (alL (encL T4))))] [(0, .obj 53 (.agg [.mp 1, .mp 2, .sl 368 1 0 (encL T4).length])), (1, .mset (.strs (nmL (encL T4)))), (2, .mset (.strs (tmL (encL T4)))), (368, .vec 9 (.strs (alL (encL T4))))] _ _ d4 call21 (by simp only [AV.nmIn, bnd, req, ret, onQ, AV.isTup, isTupL, and_true, true_and, and_self, Bool.false_eq_true, List.append_nil, vw.vwL, vw, AV.free, AV.freeL, Bool.or_self]; all_goals (and_intros <;> first | exact AV.subL_refl _ | omega | (simp [AV.sub, entsFree, Ent.free, Row.free]; done) | rfl | (simp [AV.subL_refl]; done))) (by simp [leL, lk]) (by intro n hn; first | (left; revert hn; simp [Nm, lk]; done) | (right; revert hn; simp only [Nm, lk]; split <;> simp <;> omega) | (by_cases h1 : Nm [(0, .obj 53 (.agg [.mp 1, .mp 2, .sl 224 1 0 (encL T4).length])), (1, .mset (.strs (nmL (encL T4)))), (2, .mset (.strs (tmL (encL T4)))), (224, .vec 9 (.strs (alL (encL T4))))] n; exact .inl h1; right; revert hn h1; simp only [Nm, lk]; split <;> (try split) <;> (try split) <;> (try split) <;> (try simp) <;> (try omega))) (by simp [entsIn, Ent.nmIn, Row.nmIn, AV.nmIn, AV.nmInL, Nm, lk]) ?_
      simp only [callDel, exOps_nil, exOps_cons, exOp_eq, nx_eq, cur_eq, stepQ, ev, lk, putT, erA, inB, opt, ret, onQ, ap, up, er, true_and, Nat.reduceEqDiff, Nat.reduceLT, Nat.reduceAdd, if_true, if_false, reduceCtorEq, List.getElem?_cons_zero, List.getElem?_cons_succ, List.nil_append, List.cons_append, List.map_cons, List.map_nil, List.reverse_cons, List.reverse_nil]
      refine hK _ ?_
      clear hK K
      refine W.seqK fun K hK => W.regionK tt_ok ?_
      simp only [exOps_cons, exOp_eq, exCall_eq, nx_eq, cur_eq, evL, stepQ, ev, lk, putT, erA, inB, opt, ret, onQ, ap, true_and, Nat.reduceEqDiff, Nat.reduceLT, Nat.reduceAdd, if_true, if_false, reduceCtorEq, Option.bind_some, Option.map_some]
      refine CallK.with [(0, .obj 53 (.agg [.mp 1, .mp 2, .sl 368 1 0 (encL T4).length])), (1, .mset (.strs (nmL (encL T4)))), (2, .mset (.strs (tmL (encL T4)))), (368, .vec 9 (.strs (alL (encL T4))))] [(0, .obj 53 (.agg [.mp 1, .mp 2, .sl 512 1 0 (encL T5).length])), (1, .mset (.strs (nmL (encL T5)))), (2, .mset (.strs (tmL (encL T5)))), (512, .vec 9 (.strs (alL (encL T5))))] _ _ d5 call21 (by simp only [AV.nmIn, bnd, req, ret, onQ, AV.isTup, isTupL, and_true, true_and, and_self, Bool.false_eq_true, List.append_nil, vw.vwL, vw, AV.free, AV.freeL, Bool.or_self]; all_goals (and_intros <;> first | exact AV.subL_refl _ | omega | (simp [AV.sub, entsFree, Ent.free, Row.free]; done) | rfl | (simp [AV.subL_refl]; done))) (by simp [leL, lk]) (by intro n hn; first | (left; revert hn; simp [Nm, lk]; done) | (right; revert hn; simp only [Nm, lk]; split <;> simp <;> omega) | (by_cases h1 : Nm [(0, .obj 53 (.agg [.mp 1, .mp 2, .sl 368 1 0 (encL T4).length])), (1, .mset (.strs (nmL (encL T4)))), (2, .mset (.strs (tmL (encL T4)))), (368, .vec 9 (.strs (alL (encL T4))))] n; exact .inl h1; right; revert hn h1; simp only [Nm, lk]; split <;> (try split) <;> (try split) <;> (try split) <;> (try simp) <;> (try omega))) (by simp [entsIn, Ent.nmIn, Row.nmIn, AV.nmIn, AV.nmInL, Nm, lk]) ?_
      simp only [callDel, exOps_nil, exOps_cons, exOp_eq, nx_eq, cur_eq, stepQ, ev, lk, putT, erA, inB, opt, ret, onQ, ap, up, er, true_and, Nat.reduceEqDiff, Nat.reduceLT, Nat.reduceAdd, if_true, if_false, reduceCtorEq, List.getElem?_cons_zero, List.getElem?_cons_succ, List.nil_append, List.cons_append, List.map_cons, List.map_nil, List.reverse_cons, List.reverse_nil]
      refine hK _ ?_
      clear hK K
      refine W.seqK fun K hK => W.regionK tt_ok ?_
      simp only [exOps_cons, exOp_eq, exCall_eq, nx_eq, cur_eq, evL, stepQ, ev, lk, putT, erA, inB, opt, ret, onQ, ap, true_and, Nat.reduceEqDiff, Nat.reduceLT, Nat.reduceAdd, if_true, if_false, reduceCtorEq, Option.bind_some, Option.map_some]
      refine CallK.with [(0, .obj 53 (.agg [.mp 1, .mp 2, .sl 512 1 0 (encL T5).length])), (1, .mset (.strs (nmL (encL T5)))), (2, .mset (.strs (tmL (encL T5)))), (512, .vec 9 (.strs (alL (encL T5))))] [(0, .obj 53 (.agg [.mp 1, .mp 2, .sl 512 1 0 (encL T5).length])), (1, .mset (.strs (nmL (encL T5)))), (2, .mset (.strs (tmL (encL T5)))), (512, .vec 9 (.strs (alL (encL T5))))] _ _ d6 call21 (by simp only [AV.nmIn, bnd, req, ret, onQ, AV.isTup, isTupL, and_true, true_and, and_self, Bool.false_eq_true, List.append_nil, vw.vwL, vw, AV.free, AV.freeL, Bool.or_self]; all_goals (and_intros <;> first | exact AV.subL_refl _ | omega | (simp [AV.sub, entsFree, Ent.free, Row.free]; done) | rfl | (simp [AV.subL_refl]; done))) (by simp [leL, lk]) (by intro n hn; first | (left; revert hn; simp [Nm, lk]; done) | (right; revert hn; simp only [Nm, lk]; split <;> simp <;> omega) | (by_cases h1 : Nm [(0, .obj 53 (.agg [.mp 1, .mp 2, .sl 512 1 0 (encL T5).length])), (1, .mset (.strs (nmL (encL T5)))), (2, .mset (.strs (tmL (encL T5)))), (512, .vec 9 (.strs (alL (encL T5))))] n; exact .inl h1; right; revert hn h1; simp only [Nm, lk]; split <;> (try split) <;> (try split) <;> (try split) <;> (try simp) <;> (try omega))) (by simp [entsIn, Ent.nmIn, Row.nmIn, AV.nmIn, AV.nmInL, Nm, lk]) ?_
      simp only [callDel, exOps_nil, exOps_cons, exOp_eq, nx_eq, cur_eq, stepQ, ev, lk, putT, erA, inB, opt, ret, onQ, ap, up, er, true_and, Nat.reduceEqDiff, Nat.reduceLT, Nat.reduceAdd, if_true, if_false, reduceCtorEq, List.getElem?_cons_zero, List.getElem?_cons_succ, List.nil_append, List.cons_append, List.map_cons, List.map_nil, List.reverse_cons, List.reverse_nil]
      refine hK _ ?_
      clear hK K
      refine W.seqK fun K hK => W.regionK tt_ok ?_
      simp only [Bool.not_false, ↓gTT, ↓nTT, exOps_nil, exOps_cons, exOp_eq, nx_eq, cur_eq, stepQ, ev, lk, putT, erA, inB, opt, bnd, req, ret, onQ, ap, binG, binF, strF, eqOp, unF, pickF, and_true, true_and, and_self, Nat.reduceEqDiff, Nat.reduceLT, Nat.reduceAdd, if_true, if_false, reduceCtorEq, List.getElem?_cons_zero, List.getElem?_cons_succ, Option.bind_some, tt_4, beq_self_eq_true, hzx, hpq]
      refine hK _ ?_
      clear hK K
      refine W.ret ?_
      simp only [fin_ret, finB, resQ, resV, leL, AV.nmIn, entsIn, lk, opt, bnd, req, ret, onQ, AV.isTup, and_self, Nat.reduceEqDiff, if_true, if_false, reduceCtorEq]
      done
end Go.Proofs.Ytjnhpklhdikcdaa
