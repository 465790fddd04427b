/- TermRefused: the walk. -/
import Derived.Test.YtjnhpklhdikcdaaTnG
-- TT 3 4 5 9 22 24 27 28 30 35 41 47 51 53 54 63 74
-- SIMP beq_self_eq_true eSe' viewEL_rep
set_option linter.unusedVariables false
set_option linter.unusedSimpArgs false
namespace Go.Proofs.Ytjnhpklhdikcdaa
open Sx
set_option maxRecDepth 100000
set_option maxHeartbeats 4000000
theorem refused_heavy (l : List Ac) (s : ByteArray) (hl : l.length ≤ 9223372036854775807) (h1 : hvB l = true) : FnR Try.prog G 6 [.lst 6 (l.map acV), .str s] [] (.bool true) [] := by
  have c1 := heavy_fn l hl
  rw [h1] at c1
  refine FnR.of_walk (m := 92) (n0 := 16) tt_ok Try.func6 rfl rfl (by simp) (by simp [nmH]) ?_
  rw [show Try.f6.results.toList = [.tmp 4] from rfl]
  refine W.seqK fun K hK => W.regionK tt_ok ?_
  simp only [exOps_nil, exOps_cons, exOp_eq, nx_eq, cur_eq, stepQ, ev, ofV, parT, putT, erA, inB, opt, ret, onQ, ap, true_and, Nat.reduceEqDiff, Nat.reduceLT, Nat.reduceAdd, Nat.zero_add, if_false, reduceCtorEq]
  refine hK _ ?_
  clear hK K
  refine W.seqK fun Kx hKx => ?_
  refine W.seqK fun K hK => W.regionK tt_ok ?_
  simp only [exOps_cons, exOp_eq, exCall_eq, evL, ev, inB, true_and, Nat.reduceLT]
  refine CallK.pure _ _ alive_fn call9 (by simp only [ret, onQ, isTupL, true_and, Bool.false_eq_true, List.append_nil, vw.vwL, AV.free]; all_goals (and_intros <;> first | exact AV.subL_refl _ | omega | (simp []; done) | rfl | (simp [AV.subL_refl]; done) | (simp; exact AV.subL_refl _))) ?_
  simp only [Bool.not_true, exOps_nil, exOps_cons, exOp_eq, nx_eq, cur_eq, stepQ, ev, lk, putT, erA, inB, opt, bnd, req, ret, onQ, ap, unF, true_and, and_self, Nat.reduceEqDiff, Nat.reduceLT, Nat.reduceAdd, if_true, if_false, reduceCtorEq]
  refine hK _ ?_
  clear hK K
  refine W.cond (b := false) (by simp only [ev, lk, Nat.reduceEqDiff, if_true, if_false, reduceCtorEq]) (fun h => absurd h (by simp)) (fun _ => W.skip ?_)
  simp only [thn_normal]
  refine hKx _ ?_
  have cn := ((new_fn.rename 64 65).rename 16 66).rename 32 67
  simp [AV.map, AV.mapL, enMap, Ent.map, swp] at cn
  refine W.seqK fun K hK => W.regionK tt_ok ?_
  simp only [exOps_cons, exOp_eq, exCall_eq, evL, ev, inB, true_and, Nat.reduceLT]
  refine CallK.with [] [(65, .obj 53 (.agg [.mp 66, .mp 67, .nils])), (66, .mset (.strs [])), (67, .mset (.strs []))] _ _ cn call10 (by simp only [ret, onQ, isTupL, true_and, Bool.false_eq_true, List.append_nil, vw.vwL, AV.free]; all_goals (and_intros <;> first | exact AV.subL_refl _ | omega | (simp [entsFree, Ent.free]; done) | rfl | (simp [AV.subL_refl]; done))) (by simp [leL]) (by intro n hn; first | (left; revert hn; simp [Nm, lk]; done) | (right; revert hn; simp only [Nm, lk]; split <;> simp <;> omega) | (by_cases h1 : Nm [] n; exact .inl h1; right; revert hn h1; simp only [Nm, lk]; split <;> (try split) <;> (try split) <;> (try split) <;> (try simp) <;> (try omega))) (by simp [entsIn]) ?_
  simp only [callDel, exOps_nil, exOps_cons, exOp_eq, nx_eq, cur_eq, stepQ, ev, lk, putT, erA, inB, opt, ret, onQ, ap, up, er, true_and, Nat.reduceEqDiff, Nat.reduceLT, Nat.reduceAdd, if_true, if_false, reduceCtorEq, List.nil_append, List.cons_append, List.map_cons, List.map_nil, List.reverse_cons, List.reverse_nil]
  refine hK _ ?_
  clear hK K
  refine W.swap 0 65 (by simp [Nm, lk]) ?_
  refine W.swap 1 66 (by simp [Nm, lk, St.swap]) ?_
  refine W.swap 2 67 (by simp [Nm, lk, St.swap]) ?_
  simp [St.swap, tmMap, enMap, swp, AV.map, AV.mapL, Ent.map]
  refine W.seqK fun Kz hKz => ?_
  refine W.seqK fun K hK => W.regionK tt_ok ?_
  simp only [exOps_nil, exOps_cons, exOp_eq, nx_eq, cur_eq, stepQ, ev, ofV, lk, putT, erA, inB, opt, bnd, req, ret, onQ, ap, binG, eqOp, true_and, and_self, Nat.reduceEqDiff, Nat.reduceLT, Nat.reduceAdd, if_true, if_false, reduceCtorEq, tt_24]
  refine hK _ ?_
  clear hK K
  refine W.cond (b := false) (by simp only [ev, lk, Nat.reduceEqDiff, if_true, if_false, reduceCtorEq]) (fun h => absurd h (by simp)) (fun _ => W.skip ?_)
  simp only [thn_normal]
  refine hKz _ ?_
  refine W.seqK fun Ky hKy => ?_
  refine W.seqK fun K hK => W.regionK tt_ok ?_
  simp only [exOps_cons, exOp_eq, exCall_eq, nx_eq, cur_eq, evL, stepQ, ev, lk, putT, erA, inB, opt, ret, onQ, ap, true_and, Nat.reduceEqDiff, Nat.reduceLT, Nat.reduceAdd, if_true, if_false, reduceCtorEq, Option.bind_some, Option.map_some]
  refine CallK.pure _ _ c1 call11 (by simp only [AV.nmIn, bnd, req, ret, onQ, AV.isTup, isTupL, true_and, and_self, Bool.false_eq_true, List.append_nil, vw.vwL, vw, AV.free, Bool.or_self]; all_goals (and_intros <;> first | exact AV.subL_refl _ | omega | (simp [AV.sub]; done) | rfl | (simp [AV.subL_refl]; done) | (simp; exact AV.subL_refl _))) ?_
  simp only [↓gTF, ↓nTF, exOps_nil, exOps_cons, exOp_eq, nx_eq, cur_eq, stepQ, ev, ofV, lk, putT, erA, inB, opt, bnd, req, ret, onQ, ap, pickF, true_and, and_self, Nat.reduceEqDiff, Nat.reduceLT, Nat.reduceAdd, if_true, if_false, reduceCtorEq, List.getElem?_cons_zero, List.getElem?_cons_succ, Option.bind_some]
  refine hK _ ?_
  clear hK K
  refine W.cond (b := true) (by simp only [ev, lk, Nat.reduceEqDiff, if_true, if_false, reduceCtorEq]) (fun _ => ?_) (fun h => absurd h (by simp))
  refine W.seqK fun K hK => W.regionK tt_ok ?_
  simp only [exOps_nil, exOps_cons, exOp_eq, nx_eq, cur_eq, stepQ, ev, ofV, putT, erA, inB, opt, ret, onQ, ap, true_and, Nat.reduceEqDiff, Nat.reduceLT, Nat.reduceAdd, if_true, if_false, reduceCtorEq]
  refine hK _ ?_
  clear hK K
  refine W.ret ?_
  simp only [fin_ret, finB, resQ, resV, leL, AV.nmIn, entsIn, lk, opt, bnd, req, ret, onQ, AV.isTup, thn_ret, and_self, Nat.reduceEqDiff, if_true, if_false, reduceCtorEq]
  done
theorem refused_long (l : List Ac) (s : ByteArray) (hl : l.length ≤ 9223372036854775807) (h1 : hvB l = false) (hs : 1000 < s.size) : FnR Try.prog G 6 [.lst 6 (l.map acV), .str s] [] (.bool true) [] := by
  have c1 := heavy_fn l hl
  rw [h1] at c1
  have hs1 : (1000 : Int) < s.size := by omega
  refine FnR.of_walk (m := 92) (n0 := 16) tt_ok Try.func6 rfl rfl (by simp) (by simp [nmH]) ?_
  rw [show Try.f6.results.toList = [.tmp 4] from rfl]
  refine W.seqK fun K hK => W.regionK tt_ok ?_
  simp only [exOps_nil, exOps_cons, exOp_eq, nx_eq, cur_eq, stepQ, ev, ofV, parT, putT, erA, inB, opt, ret, onQ, ap, true_and, Nat.reduceEqDiff, Nat.reduceLT, Nat.reduceAdd, Nat.zero_add, if_false, reduceCtorEq]
  refine hK _ ?_
  clear hK K
  refine W.seqK fun Kx hKx => ?_
  refine W.seqK fun K hK => W.regionK tt_ok ?_
  simp only [exOps_cons, exOp_eq, exCall_eq, evL, ev, inB, true_and, Nat.reduceLT]
  refine CallK.pure _ _ alive_fn call9 (by simp only [ret, onQ, isTupL, true_and, Bool.false_eq_true, List.append_nil, vw.vwL, AV.free]; all_goals (and_intros <;> first | exact AV.subL_refl _ | omega | (simp []; done) | rfl | (simp [AV.subL_refl]; done) | (simp; exact AV.subL_refl _))) ?_
  simp only [Bool.not_true, exOps_nil, exOps_cons, exOp_eq, nx_eq, cur_eq, stepQ, ev, lk, putT, erA, inB, opt, bnd, req, ret, onQ, ap, unF, true_and, and_self, Nat.reduceEqDiff, Nat.reduceLT, Nat.reduceAdd, if_true, if_false, reduceCtorEq]
  refine hK _ ?_
  clear hK K
  refine W.cond (b := false) (by simp only [ev, lk, Nat.reduceEqDiff, if_true, if_false, reduceCtorEq]) (fun h => absurd h (by simp)) (fun _ => W.skip ?_)
  simp only [thn_normal]
  refine hKx _ ?_
  have cn := ((new_fn.rename 64 65).rename 16 66).rename 32 67
  simp [AV.map, AV.mapL, enMap, Ent.map, swp] at cn
  refine W.seqK fun K hK => W.regionK tt_ok ?_
  simp only [exOps_cons, exOp_eq, exCall_eq, evL, ev, inB, true_and, Nat.reduceLT]
  refine CallK.with [] [(65, .obj 53 (.agg [.mp 66, .mp 67, .nils])), (66, .mset (.strs [])), (67, .mset (.strs []))] _ _ cn call10 (by simp only [ret, onQ, isTupL, true_and, Bool.false_eq_true, List.append_nil, vw.vwL, AV.free]; all_goals (and_intros <;> first | exact AV.subL_refl _ | omega | (simp [entsFree, Ent.free]; done) | rfl | (simp [AV.subL_refl]; done))) (by simp [leL]) (by intro n hn; first | (left; revert hn; simp [Nm, lk]; done) | (right; revert hn; simp only [Nm, lk]; split <;> simp <;> omega) | (by_cases h1 : Nm [] n; exact .inl h1; right; revert hn h1; simp only [Nm, lk]; split <;> (try split) <;> (try split) <;> (try split) <;> (try simp) <;> (try omega))) (by simp [entsIn]) ?_
  simp only [callDel, exOps_nil, exOps_cons, exOp_eq, nx_eq, cur_eq, stepQ, ev, lk, putT, erA, inB, opt, ret, onQ, ap, up, er, true_and, Nat.reduceEqDiff, Nat.reduceLT, Nat.reduceAdd, if_true, if_false, reduceCtorEq, List.nil_append, List.cons_append, List.map_cons, List.map_nil, List.reverse_cons, List.reverse_nil]
  refine hK _ ?_
  clear hK K
  refine W.swap 0 65 (by simp [Nm, lk]) ?_
  refine W.swap 1 66 (by simp [Nm, lk, St.swap]) ?_
  refine W.swap 2 67 (by simp [Nm, lk, St.swap]) ?_
  simp [St.swap, tmMap, enMap, swp, AV.map, AV.mapL, Ent.map]
  refine W.seqK fun Kz hKz => ?_
  refine W.seqK fun K hK => W.regionK tt_ok ?_
  simp only [exOps_nil, exOps_cons, exOp_eq, nx_eq, cur_eq, stepQ, ev, ofV, lk, putT, erA, inB, opt, bnd, req, ret, onQ, ap, binG, eqOp, true_and, and_self, Nat.reduceEqDiff, Nat.reduceLT, Nat.reduceAdd, if_true, if_false, reduceCtorEq, tt_24]
  refine hK _ ?_
  clear hK K
  refine W.cond (b := false) (by simp only [ev, lk, Nat.reduceEqDiff, if_true, if_false, reduceCtorEq]) (fun h => absurd h (by simp)) (fun _ => W.skip ?_)
  simp only [thn_normal]
  refine hKz _ ?_
  refine W.seqK fun Ky hKy => ?_
  refine W.seqK fun K hK => W.regionK tt_ok ?_
  simp only [exOps_cons, exOp_eq, exCall_eq, nx_eq, cur_eq, evL, stepQ, ev, lk, putT, erA, inB, opt, ret, onQ, ap, true_and, Nat.reduceEqDiff, Nat.reduceLT, Nat.reduceAdd, if_true, if_false, reduceCtorEq, Option.bind_some, Option.map_some]
  refine CallK.pure _ _ c1 call11 (by simp only [AV.nmIn, bnd, req, ret, onQ, AV.isTup, isTupL, true_and, and_self, Bool.false_eq_true, List.append_nil, vw.vwL, vw, AV.free, Bool.or_self]; all_goals (and_intros <;> first | exact AV.subL_refl _ | omega | (simp [AV.sub]; done) | rfl | (simp [AV.subL_refl]; done) | (simp; exact AV.subL_refl _))) ?_
  simp only [↓gFF, ↓nFF, decide_true, exOps_nil, exOps_cons, exOp_eq, exCall_eq, nx_eq, cur_eq, evL, stepQ, ev, ofV, lk, putT, erA, inB, opt, bnd, req, ret, onQ, ap, binG, binF, intF, pickF, bltQ, bltV, lenF, and_true, true_and, and_self, or_false, Nat.reduceEqDiff, Nat.reduceLT, Nat.reduceAdd, if_true, if_false, reduceCtorEq, List.getElem?_cons_zero, List.getElem?_cons_succ, Option.bind_some, Option.map_some, tt_9, hs1]
  refine hK _ ?_
  clear hK K
  refine W.cond (b := true) (by simp only [ev, lk, Nat.reduceEqDiff, if_true, if_false, reduceCtorEq]) (fun _ => ?_) (fun h => absurd h (by simp))
  refine W.seqK fun K hK => W.regionK tt_ok ?_
  simp only [exOps_nil, exOps_cons, exOp_eq, nx_eq, cur_eq, stepQ, ev, ofV, putT, erA, inB, opt, ret, onQ, ap, true_and, Nat.reduceEqDiff, Nat.reduceLT, Nat.reduceAdd, if_true, if_false, reduceCtorEq]
  refine hK _ ?_
  clear hK K
  refine W.ret ?_
  simp only [fin_ret, finB, resQ, resV, leL, AV.nmIn, entsIn, lk, opt, bnd, req, ret, onQ, AV.isTup, thn_ret, and_self, Nat.reduceEqDiff, if_true, if_false, reduceCtorEq]
  done
theorem refused_fn (l : List Ac) (s : ByteArray) (hl : l.length ≤ 9223372036854775807) (hA : ∀ x ∈ l, okA x) (h1 : hvB l = false) (hs : s.size ≤ 1000) : FnR Try.prog G 6 [.lst 6 (l.map acV), .str s] [] (.bool true) [] := by
  have c1 := heavy_fn l hl
  rw [h1] at c1
  have hs1 : ¬ (1000 : Int) < s.size := by omega
  have hn1 := hvB_len h1
  refine FnR.of_walk (m := 92) (n0 := 16) tt_ok Try.func6 rfl rfl (by simp) (by simp [nmH]) ?_
  rw [show Try.f6.results.toList = [.tmp 4] from rfl]
  refine W.seqK fun K hK => W.regionK tt_ok ?_
  simp only [exOps_nil, exOps_cons, exOp_eq, nx_eq, cur_eq, stepQ, ev, ofV, parT, putT, erA, inB, opt, ret, onQ, ap, true_and, Nat.reduceEqDiff, Nat.reduceLT, Nat.reduceAdd, Nat.zero_add, if_false, reduceCtorEq]
  refine hK _ ?_
  clear hK K
  refine W.seqK fun Kx hKx => ?_
  refine W.seqK fun K hK => W.regionK tt_ok ?_
  simp only [exOps_cons, exOp_eq, exCall_eq, evL, ev, inB, true_and, Nat.reduceLT]
  refine CallK.pure _ _ alive_fn call9 (by simp only [ret, onQ, isTupL, true_and, Bool.false_eq_true, List.append_nil, vw.vwL, AV.free]; all_goals (and_intros <;> first | exact AV.subL_refl _ | omega | (simp []; done) | rfl | (simp [AV.subL_refl]; done) | (simp; exact AV.subL_refl _))) ?_
  simp only [Bool.not_true, exOps_nil, exOps_cons, exOp_eq, nx_eq, cur_eq, stepQ, ev, lk, putT, erA, inB, opt, bnd, req, ret, onQ, ap, unF, true_and, and_self, Nat.reduceEqDiff, Nat.reduceLT, Nat.reduceAdd, if_true, if_false, reduceCtorEq]
  refine hK _ ?_
  clear hK K
  refine W.cond (b := false) (by simp only [ev, lk, Nat.reduceEqDiff, if_true, if_false, reduceCtorEq]) (fun h => absurd h (by simp)) (fun _ => W.skip ?_)
  simp only [thn_normal]
  refine hKx _ ?_
  have cn := ((new_fn.rename 64 65).rename 16 66).rename 32 67
  simp [AV.map, AV.mapL, enMap, Ent.map, swp] at cn
  refine W.seqK fun K hK => W.regionK tt_ok ?_
  simp only [exOps_cons, exOp_eq, exCall_eq, evL, ev, inB, true_and, Nat.reduceLT]
  refine CallK.with [] [(65, .obj 53 (.agg [.mp 66, .mp 67, .nils])), (66, .mset (.strs [])), (67, .mset (.strs []))] _ _ cn call10 (by simp only [ret, onQ, isTupL, true_and, Bool.false_eq_true, List.append_nil, vw.vwL, AV.free]; all_goals (and_intros <;> first | exact AV.subL_refl _ | omega | (simp [entsFree, Ent.free]; done) | rfl | (simp [AV.subL_refl]; done))) (by simp [leL]) (by intro n hn; first | (left; revert hn; simp [Nm, lk]; done) | (right; revert hn; simp only [Nm, lk]; split <;> simp <;> omega) | (by_cases h1 : Nm [] n; exact .inl h1; right; revert hn h1; simp only [Nm, lk]; split <;> (try split) <;> (try split) <;> (try split) <;> (try simp) <;> (try omega))) (by simp [entsIn]) ?_
  simp only [callDel, exOps_nil, exOps_cons, exOp_eq, nx_eq, cur_eq, stepQ, ev, lk, putT, erA, inB, opt, ret, onQ, ap, up, er, true_and, Nat.reduceEqDiff, Nat.reduceLT, Nat.reduceAdd, if_true, if_false, reduceCtorEq, List.nil_append, List.cons_append, List.map_cons, List.map_nil, List.reverse_cons, List.reverse_nil]
  refine hK _ ?_
  clear hK K
  refine W.swap 0 65 (by simp [Nm, lk]) ?_
  refine W.swap 1 66 (by simp [Nm, lk, St.swap]) ?_
  refine W.swap 2 67 (by simp [Nm, lk, St.swap]) ?_
  simp [St.swap, tmMap, enMap, swp, AV.map, AV.mapL, Ent.map]
  refine W.seqK fun Kz hKz => ?_
  refine W.seqK fun K hK => W.regionK tt_ok ?_
  simp only [exOps_nil, exOps_cons, exOp_eq, nx_eq, cur_eq, stepQ, ev, ofV, lk, putT, erA, inB, opt, bnd, req, ret, onQ, ap, binG, eqOp, true_and, and_self, Nat.reduceEqDiff, Nat.reduceLT, Nat.reduceAdd, if_true, if_false, reduceCtorEq, tt_24]
  refine hK _ ?_
  clear hK K
  refine W.cond (b := false) (by simp only [ev, lk, Nat.reduceEqDiff, if_true, if_false, reduceCtorEq]) (fun h => absurd h (by simp)) (fun _ => W.skip ?_)
  simp only [thn_normal]
  refine hKz _ ?_
  refine W.seqK fun Ky hKy => ?_
  refine W.seqK fun K hK => W.regionK tt_ok ?_
  simp only [exOps_cons, exOp_eq, exCall_eq, nx_eq, cur_eq, evL, stepQ, ev, lk, putT, erA, inB, opt, ret, onQ, ap, true_and, Nat.reduceEqDiff, Nat.reduceLT, Nat.reduceAdd, if_true, if_false, reduceCtorEq, Option.bind_some, Option.map_some]
  refine CallK.pure _ _ c1 call11 (by simp only [AV.nmIn, bnd, req, ret, onQ, AV.isTup, isTupL, true_and, and_self, Bool.false_eq_true, List.append_nil, vw.vwL, vw, AV.free, Bool.or_self]; all_goals (and_intros <;> first | exact AV.subL_refl _ | omega | (simp [AV.sub]; done) | rfl | (simp [AV.subL_refl]; done) | (simp; exact AV.subL_refl _))) ?_
  simp only [↓gFF, ↓nFF, decide_false, exOps_nil, exOps_cons, exOp_eq, exCall_eq, nx_eq, cur_eq, evL, stepQ, ev, ofV, lk, putT, erA, inB, opt, bnd, req, ret, onQ, ap, binG, binF, intF, pickF, bltQ, bltV, lenF, and_true, true_and, and_self, or_false, Nat.reduceEqDiff, Nat.reduceLT, Nat.reduceAdd, if_true, if_false, reduceCtorEq, List.getElem?_cons_zero, List.getElem?_cons_succ, Option.bind_some, Option.map_some, tt_9, hs1]
  refine hK _ ?_
  clear hK K
  refine W.cond (b := false) (by simp only [ev, lk, Nat.reduceEqDiff, if_true, if_false, reduceCtorEq]) (fun h => absurd h (by simp)) (fun _ => W.skip ?_)
  simp only [thn_normal]
  refine hKy _ ?_
  refine W.seqK fun Kl hKl => ?_
  refine W.seqK fun K hK => W.regionK tt_ok ?_
  simp only [exOps_nil, exOps_cons, exOp_eq, exCall_eq, nx_eq, cur_eq, evL, stepQ, ev, ofV, lk, putT, erA, inB, opt, bnd, req, ret, onQ, ap, bltQ, bltV, lenF, true_and, and_self, or_false, Nat.reduceEqDiff, Nat.reduceLT, Nat.reduceAdd, if_true, if_false, reduceCtorEq, List.getElem?_cons_zero, Option.bind_some, Option.map_some, tt_22, List.length_map]
  refine hK _ ?_
  clear hK K
  refine W.blockK ?_
  refine W.loopS (fun k : Nat => k ≤ l.length) (fun k => ⟨[(0, .lst 6 (l.map acV)), (1, .str s), (5, .ptr 0 0 0 1), (25, .lst 6 (l.map acV)), (26, .int .i64 (l.length : Int)), (27, .int .i64 (k : Int))], tabS 3 (tk [] l k), 32, 92⟩) (fun k => l.length - k) 0 (by simp) (by simp [tabS, tk_zero, tabE, wk, leL, lk, nmT, nmE, nmH, AV.nmIn, AV.nmInL, Ent.nmIn]) ?_
  intro k hk K3 hK3
  by_cases hlt : k < l.length
  · have hok0 := okTs_nil
    have hl0 : ([] : Tms').length = 0 := rfl
    have hAa := hA
    have hml : (l.map acV).length = l.length := List.length_map ..
    generalize hT0 : ([] : Tms') = T0 at *
    generalize l = acts at *
    have c := made_fn (tk T0 acts k) (tk_ok hok0 acts k) (by have := tk_len T0 acts k; omega) acts[k] (hAa _ (List.getElem_mem ..))
    rw [← tk_succ T0 acts k hlt] at c
    have he := ac_get acts k hlt
    have l1 : (k : Int) < (acts.length : Nat) := by omega
    have hwk : IntKind.i64.wrap ((k : Int) + 1) = ((k + 1 : Nat) : Int) := wrap_up k (by omega)
    have hup := tk_up (T := T0) (l := acts) hlt
    simp only [acV] at c
    generalize acts[k] = x at *
    generalize mdN (tk T0 acts k) x = r at *
    by_cases hs1 : tk T0 acts (k + 1) = []
    · have hs0 : tk T0 acts k = [] := Classical.byContradiction fun q => hup q hs1
      rw [hs0, hs1, tabS_nil, tabS_nil] at c
      simp only [hs0, tabS_nil, tabE] at c ⊢
      refine W.seqK fun K hK => W.regionK tt_ok ?_
      simp only [decide_true, exOps_nil, exOps_cons, exOp_eq, nx_eq, cur_eq, stepQ, ev, lk, putT, erA, inB, opt, bnd, req, ret, onQ, ap, binG, binF, intF, true_and, and_self, Nat.reduceEqDiff, Nat.reduceLT, Nat.reduceAdd, if_true, if_false, reduceCtorEq, l1]
      refine hK _ ?_
      clear hK K
      refine W.seqK fun K hK => W.cond (b := true) (by simp only [ev, lk, Nat.reduceEqDiff, if_true, if_false, reduceCtorEq]) (fun _ => W.skip ?_) (fun h => absurd h (by simp))
      rw [thn_normal]
      refine hK _ ?_
      clear hK K
      refine W.seqK fun K hK => W.blockK ?_
      refine W.seqK fun K hK => W.regionK tt_ok ?_
      simp only [exOps_nil, exOps_cons, exOp_eq, nx_eq, cur_eq, stepQ, ev, lk, putT, erA, inB, opt, bnd, req, ret, onQ, ap, up, er, AV.isTup, AV.isAgg, Kd.elem, ixA, asI, ldP, ldC, ldS, Kd.agg, comps, szL, csize, takeI, takeC, dropC, stP, stE, stC, stS, and_true, true_and, and_self, Nat.reduceEqDiff, Nat.reduceLT, Nat.reduceLeDiff, Nat.reduceAdd, Nat.reduceSub, Nat.sub_self, Int.toNat_natCast, Nat.le_refl, Nat.add_zero, Nat.zero_add, if_true, if_false, reduceCtorEq, Option.bind_some, Option.map_some, List.append_nil, List.nil_append, tt_22, tt_30, he]
      refine ⟨by rw [hml]; omega, ?_⟩
      refine hK _ ?_
      clear hK K
      refine W.region tt_ok ?_
      simp only [exOps_cons, exOp_eq, exCall_eq, nx_eq, cur_eq, evL, stepQ, ev, lk, putT, erA, inB, opt, bnd, req, ret, onQ, ap, ldP, ldE, ldC, ldS, Kd.agg, comps, csize, takeI, takeC, dropC, true_and, and_self, Nat.reduceEqDiff, Nat.reduceLT, Nat.reduceLeDiff, Nat.reduceAdd, Nat.reduceSub, Nat.sub_self, Nat.le_refl, if_true, if_false, reduceCtorEq, Option.bind_some, Option.map_some, tt_30]
      refine CallK.with [(0, .obj 53 (.agg [.mp 1, .mp 2, .nils])), (1, .mset (.strs [])), (2, .mset (.strs []))] [(0, .obj 53 (.agg [.mp 1, .mp 2, .nils])), (1, .mset (.strs [])), (2, .mset (.strs []))] _ _ c call13 (by simp only [AV.nmIn, bnd, req, ret, onQ, AV.isTup, isTupL, and_true, true_and, and_self, Bool.false_eq_true, List.append_nil, vw.vwL, vw, AV.free, AV.freeL, Bool.or_self]; all_goals (and_intros <;> first | exact AV.subL_refl _ | omega | (simp [AV.sub, entsFree, Ent.free]; done) | rfl | (simp [AV.subL_refl]; done))) (by simp [leL, lk]) (by intro n hn; first | (left; revert hn; simp [Nm, lk]; done) | (right; revert hn; simp only [Nm, lk]; split <;> simp <;> omega) | (by_cases h1 : Nm [(0, .obj 53 (.agg [.mp 1, .mp 2, .nils])), (1, .mset (.strs [])), (2, .mset (.strs []))] n; exact .inl h1; right; revert hn h1; simp only [Nm, lk]; split <;> (try split) <;> (try split) <;> (try split) <;> (try simp) <;> (try omega))) (by simp [entsIn, Ent.nmIn, AV.nmIn, AV.nmInL, Nm, lk]) ?_
      simp only [callDel, exOps_nil, nx_eq, putT, erA, ap, up, er, thn_normal, inb_normal, Nat.reduceEqDiff, Nat.reduceAdd, if_true, if_false, reduceCtorEq, List.nil_append, List.cons_append, List.map_cons, List.map_nil, List.reverse_cons, List.reverse_nil]
      refine hK _ ?_
      refine W.region tt_ok ?_
      simp only [exOps_nil, exOps_cons, exOp_eq, nx_eq, cur_eq, stepQ, ev, ofV, lk, putT, erA, inB, opt, bnd, req, ret, onQ, ap, binG, binF, intF, thn_normal, true_and, and_self, Nat.reduceEqDiff, Nat.reduceLT, Nat.reduceAdd, if_true, if_false, reduceCtorEq, hwk]
      refine hK3 _ (k + 1) 3 144 (by omega) (by omega) (by simp [Nm, lk]) ?_
      simp [tabS, hs1, tabE, St.swap, tmMap, enMap, swp, AV.map, AV.mapL, Ent.map, wk, leL, lk, nmT, nmE, nmH, AV.nmIn, AV.nmInL, Ent.nmIn]
    · by_cases hs0 : tk T0 acts k = []
      · rw [hs0, tabS_nil, tabS_ne 992 hs1] at c
        have c := mv0 992 144 (by omega) (by omega) (by omega) rfl c
        simp only [hs0, tabS_nil, tabE, tbX] at c ⊢
        refine W.seqK fun K hK => W.regionK tt_ok ?_
        simp only [decide_true, exOps_nil, exOps_cons, exOp_eq, nx_eq, cur_eq, stepQ, ev, lk, putT, erA, inB, opt, bnd, req, ret, onQ, ap, binG, binF, intF, true_and, and_self, Nat.reduceEqDiff, Nat.reduceLT, Nat.reduceAdd, if_true, if_false, reduceCtorEq, l1]
        refine hK _ ?_
        clear hK K
        refine W.seqK fun K hK => W.cond (b := true) (by simp only [ev, lk, Nat.reduceEqDiff, if_true, if_false, reduceCtorEq]) (fun _ => W.skip ?_) (fun h => absurd h (by simp))
        rw [thn_normal]
        refine hK _ ?_
        clear hK K
        refine W.seqK fun K hK => W.blockK ?_
        refine W.seqK fun K hK => W.regionK tt_ok ?_
        simp only [exOps_nil, exOps_cons, exOp_eq, nx_eq, cur_eq, stepQ, ev, lk, putT, erA, inB, opt, bnd, req, ret, onQ, ap, up, er, AV.isTup, AV.isAgg, Kd.elem, ixA, asI, ldP, ldC, ldS, Kd.agg, comps, szL, csize, takeI, takeC, dropC, stP, stE, stC, stS, and_true, true_and, and_self, Nat.reduceEqDiff, Nat.reduceLT, Nat.reduceLeDiff, Nat.reduceAdd, Nat.reduceSub, Nat.sub_self, Int.toNat_natCast, Nat.le_refl, Nat.add_zero, Nat.zero_add, if_true, if_false, reduceCtorEq, Option.bind_some, Option.map_some, List.append_nil, List.nil_append, tt_22, tt_30, he]
        refine ⟨by rw [hml]; omega, ?_⟩
        refine hK _ ?_
        clear hK K
        refine W.region tt_ok ?_
        simp only [exOps_cons, exOp_eq, exCall_eq, nx_eq, cur_eq, evL, stepQ, ev, lk, putT, erA, inB, opt, bnd, req, ret, onQ, ap, ldP, ldE, ldC, ldS, Kd.agg, comps, csize, takeI, takeC, dropC, true_and, and_self, Nat.reduceEqDiff, Nat.reduceLT, Nat.reduceLeDiff, Nat.reduceAdd, Nat.reduceSub, Nat.sub_self, Nat.le_refl, if_true, if_false, reduceCtorEq, Option.bind_some, Option.map_some, tt_30]
        refine CallK.with [(0, .obj 53 (.agg [.mp 1, .mp 2, .nils])), (1, .mset (.strs [])), (2, .mset (.strs []))] [(0, .obj 53 (.agg [.mp 1, .mp 2, .sl 144 1 0 (encL (tk T0 acts (k + 1))).length])), (1, .mset (.strs (nmL (encL (tk T0 acts (k + 1)))))), (2, .mset (.strs (tmL (encL (tk T0 acts (k + 1)))))), (144, .vec 9 (.strs (alL (encL (tk T0 acts (k + 1))))))] _ _ c call13 (by simp only [AV.nmIn, bnd, req, ret, onQ, AV.isTup, isTupL, and_true, true_and, and_self, Bool.false_eq_true, List.append_nil, vw.vwL, vw, AV.free, AV.freeL, Bool.or_self]; all_goals (and_intros <;> first | exact AV.subL_refl _ | omega | (simp [AV.sub, entsFree, Ent.free, Row.free]; done) | rfl | (simp [AV.subL_refl]; done))) (by simp [leL, lk]) (by intro n hn; first | (left; revert hn; simp [Nm, lk]; done) | (right; revert hn; simp only [Nm, lk]; split <;> simp <;> omega) | (by_cases h1 : Nm [(0, .obj 53 (.agg [.mp 1, .mp 2, .nils])), (1, .mset (.strs [])), (2, .mset (.strs []))] n; exact .inl h1; right; revert hn h1; simp only [Nm, lk]; split <;> (try split) <;> (try split) <;> (try split) <;> (try simp) <;> (try omega))) (by simp [entsIn, Ent.nmIn, AV.nmIn, AV.nmInL, Nm, lk]) ?_
        simp only [callDel, exOps_nil, nx_eq, putT, erA, ap, up, er, thn_normal, inb_normal, Nat.reduceEqDiff, Nat.reduceAdd, if_true, if_false, reduceCtorEq, List.nil_append, List.cons_append, List.map_cons, List.map_nil, List.reverse_cons, List.reverse_nil]
        refine hK _ ?_
        refine W.region tt_ok ?_
        simp only [exOps_nil, exOps_cons, exOp_eq, nx_eq, cur_eq, stepQ, ev, ofV, lk, putT, erA, inB, opt, bnd, req, ret, onQ, ap, binG, binF, intF, thn_normal, true_and, and_self, Nat.reduceEqDiff, Nat.reduceLT, Nat.reduceAdd, if_true, if_false, reduceCtorEq, hwk]
        refine hK3 _ (k + 1) 3 144 (by omega) (by omega) (by simp [Nm, lk]) ?_
        simp [tabS, hs1, tbX, St.swap, tmMap, enMap, swp, AV.map, AV.mapL, Ent.map, Row.map, wk, leL, lk, nmT, nmE, nmH, AV.nmIn, AV.nmInL, Ent.nmIn, Row.nmIn]
      · rw [tabS_ne 3 hs0, tabS_ne 992 hs1] at c
        have c := mv1 992 144 (by omega) (by omega) (by omega) rfl c
        simp only [tabS_ne 3 hs0, tbX] at c ⊢
        refine W.seqK fun K hK => W.regionK tt_ok ?_
        simp only [decide_true, exOps_nil, exOps_cons, exOp_eq, nx_eq, cur_eq, stepQ, ev, lk, putT, erA, inB, opt, bnd, req, ret, onQ, ap, binG, binF, intF, true_and, and_self, Nat.reduceEqDiff, Nat.reduceLT, Nat.reduceAdd, if_true, if_false, reduceCtorEq, l1]
        refine hK _ ?_
        clear hK K
        refine W.seqK fun K hK => W.cond (b := true) (by simp only [ev, lk, Nat.reduceEqDiff, if_true, if_false, reduceCtorEq]) (fun _ => W.skip ?_) (fun h => absurd h (by simp))
        rw [thn_normal]
        refine hK _ ?_
        clear hK K
        refine W.seqK fun K hK => W.blockK ?_
        refine W.seqK fun K hK => W.regionK tt_ok ?_
        simp only [exOps_nil, exOps_cons, exOp_eq, nx_eq, cur_eq, stepQ, ev, lk, putT, erA, inB, opt, bnd, req, ret, onQ, ap, up, er, AV.isTup, AV.isAgg, Kd.elem, ixA, asI, ldP, ldC, ldS, Kd.agg, comps, szL, csize, takeI, takeC, dropC, stP, stE, stC, stS, and_true, true_and, and_self, Nat.reduceEqDiff, Nat.reduceLT, Nat.reduceLeDiff, Nat.reduceAdd, Nat.reduceSub, Nat.sub_self, Int.toNat_natCast, Nat.le_refl, Nat.add_zero, Nat.zero_add, if_true, if_false, reduceCtorEq, Option.bind_some, Option.map_some, List.append_nil, List.nil_append, tt_22, tt_30, he]
        refine ⟨by rw [hml]; omega, ?_⟩
        refine hK _ ?_
        clear hK K
        refine W.region tt_ok ?_
        simp only [exOps_cons, exOp_eq, exCall_eq, nx_eq, cur_eq, evL, stepQ, ev, lk, putT, erA, inB, opt, bnd, req, ret, onQ, ap, ldP, ldE, ldC, ldS, Kd.agg, comps, csize, takeI, takeC, dropC, true_and, and_self, Nat.reduceEqDiff, Nat.reduceLT, Nat.reduceLeDiff, Nat.reduceAdd, Nat.reduceSub, Nat.sub_self, Nat.le_refl, if_true, if_false, reduceCtorEq, Option.bind_some, Option.map_some, tt_30]
        refine CallK.with [(0, .obj 53 (.agg [.mp 1, .mp 2, .sl 3 1 0 (encL (tk T0 acts k)).length])), (1, .mset (.strs (nmL (encL (tk T0 acts k))))), (2, .mset (.strs (tmL (encL (tk T0 acts k))))), (3, .vec 9 (.strs (alL (encL (tk T0 acts k)))))] [(0, .obj 53 (.agg [.mp 1, .mp 2, .sl 144 1 0 (encL (tk T0 acts (k + 1))).length])), (1, .mset (.strs (nmL (encL (tk T0 acts (k + 1)))))), (2, .mset (.strs (tmL (encL (tk T0 acts (k + 1)))))), (144, .vec 9 (.strs (alL (encL (tk T0 acts (k + 1))))))] _ _ c call13 (by simp only [AV.nmIn, bnd, req, ret, onQ, AV.isTup, isTupL, and_true, true_and, and_self, Bool.false_eq_true, List.append_nil, vw.vwL, vw, AV.free, AV.freeL, Bool.or_self]; all_goals (and_intros <;> first | exact AV.subL_refl _ | omega | (simp [AV.sub, entsFree, Ent.free, Row.free]; done) | rfl | (simp [AV.subL_refl]; done))) (by simp [leL, lk]) (by intro n hn; first | (left; revert hn; simp [Nm, lk]; done) | (right; revert hn; simp only [Nm, lk]; split <;> simp <;> omega) | (by_cases h1 : Nm [(0, .obj 53 (.agg [.mp 1, .mp 2, .sl 3 1 0 (encL (tk T0 acts k)).length])), (1, .mset (.strs (nmL (encL (tk T0 acts k))))), (2, .mset (.strs (tmL (encL (tk T0 acts k))))), (3, .vec 9 (.strs (alL (encL (tk T0 acts k)))))] n; exact .inl h1; right; revert hn h1; simp only [Nm, lk]; split <;> (try split) <;> (try split) <;> (try split) <;> (try simp) <;> (try omega))) (by simp [entsIn, Ent.nmIn, Row.nmIn, AV.nmIn, AV.nmInL, Nm, lk]) ?_
        simp only [callDel, exOps_nil, nx_eq, putT, erA, ap, up, er, thn_normal, inb_normal, Nat.reduceEqDiff, Nat.reduceAdd, if_true, if_false, reduceCtorEq, List.nil_append, List.cons_append, List.map_cons, List.map_nil, List.reverse_cons, List.reverse_nil]
        refine hK _ ?_
        refine W.region tt_ok ?_
        simp only [exOps_nil, exOps_cons, exOp_eq, nx_eq, cur_eq, stepQ, ev, ofV, lk, putT, erA, inB, opt, bnd, req, ret, onQ, ap, binG, binF, intF, thn_normal, true_and, and_self, Nat.reduceEqDiff, Nat.reduceLT, Nat.reduceAdd, if_true, if_false, reduceCtorEq, hwk]
        refine hK3 _ (k + 1) 3 144 (by omega) (by omega) (by simp [Nm, lk]) ?_
        simp [tabS, hs1, tbX, St.swap, tmMap, enMap, swp, AV.map, AV.mapL, Ent.map, Row.map, wk, leL, lk, nmT, nmE, nmH, AV.nmIn, AV.nmInL, Ent.nmIn, Row.nmIn]
  · obtain rfl : k = l.length := by omega
    have l1 : ¬ ((l.length : Nat) : Int) < (l.length : Nat) := by omega
    refine W.seqK fun K hK => W.regionK tt_ok ?_
    simp only [decide_false, exOps_nil, exOps_cons, exOp_eq, nx_eq, cur_eq, stepQ, ev, lk, putT, erA, inB, opt, bnd, req, ret, onQ, ap, binG, binF, intF, true_and, and_self, Nat.reduceEqDiff, Nat.reduceLT, Nat.reduceAdd, if_true, if_false, reduceCtorEq, l1]
    refine hK _ ?_
    clear hK K
    refine W.seqK fun K hK => W.cond (b := false) (by simp only [ev, lk, Nat.reduceEqDiff, if_true, if_false, reduceCtorEq]) (fun h => absurd h (by simp)) (fun _ => W.exit ?_)
    simp only [thn_normal, thn_exit, inb_exit, if_true]
    clear hK K
    refine hKl _ ?_
    have hok1 := tk_ok okTs_nil l l.length
    have hl1 := tk_len [] l l.length
    simp only [List.length_nil] at hl1
    generalize tk [] l l.length = T1 at *
    by_cases ht1 : T1 = []
    · subst ht1
      have ca := all_0
      simp only [tabS_nil, tabE] at ca ⊢
      refine W.seqK fun K hK => W.regionK tt_ok ?_
      simp only [exOps_cons, exOp_eq, exCall_eq, nx_eq, cur_eq, evL, stepQ, ev, lk, putT, erA, inB, opt, ret, onQ, ap, true_and, Nat.reduceEqDiff, Nat.reduceLT, Nat.reduceAdd, if_true, if_false, reduceCtorEq, Option.bind_some, Option.map_some]
      refine CallK.with [(0, .obj 53 (.agg [.mp 1, .mp 2, .nils])), (1, .mset (.strs [])), (2, .mset (.strs []))] [(0, .obj 53 (.agg [.mp 1, .mp 2, .nils])), (1, .mset (.strs [])), (2, .mset (.strs []))] _ _ ca call14 (by simp only [AV.nmIn, bnd, req, ret, onQ, AV.isTup, isTupL, and_true, true_and, and_self, Bool.false_eq_true, List.append_nil, vw.vwL, vw, AV.free, Bool.or_self]; all_goals (and_intros <;> first | exact AV.subL_refl _ | omega | (simp [AV.sub, entsFree, Ent.free]; done) | rfl | (simp [AV.subL_refl]; done))) (by simp [leL, lk]) (by intro n hn; first | (left; revert hn; simp [Nm, lk]; done) | (right; revert hn; simp only [Nm, lk]; split <;> simp <;> omega) | (by_cases h1 : Nm [(0, .obj 53 (.agg [.mp 1, .mp 2, .nils])), (1, .mset (.strs [])), (2, .mset (.strs []))] n; exact .inl h1; right; revert hn h1; simp only [Nm, lk]; split <;> (try split) <;> (try split) <;> (try split) <;> (try simp) <;> (try omega))) (by simp [entsIn, Ent.nmIn, AV.nmIn, AV.nmInL, Nm, lk]) ?_
      simp only [callDel, exOps_nil, exOps_cons, exOp_eq, exCall_eq, nx_eq, cur_eq, evL, stepQ, ev, lk, putT, erA, inB, opt, bnd, req, ret, onQ, ap, up, er, bltQ, bltV, lenF, true_and, and_self, or_false, Nat.reduceEqDiff, Nat.reduceLT, Nat.reduceAdd, if_true, if_false, reduceCtorEq, List.getElem?_cons_zero, Option.bind_some, Option.map_some, List.nil_append, List.cons_append, tt_35, List.map_cons, List.map_nil, List.reverse_cons, List.reverse_nil]
      refine hK _ ?_
      clear hK K
      refine W.seqK fun K hK => W.regionK tt_ok ?_
      simp only [exOps_nil, exOps_cons, exOp_eq, nx_eq, cur_eq, stepQ, ev, ofV, lk, putT, erA, inB, opt, bnd, req, ret, onQ, ap, up, er, intsOf, cvQ, s2bQ, srcQ, Row.len, Row.sz, Row.take, Row.drop, Ent.row, mkQ, zeroCs, cellsRow, and_true, true_and, and_self, Nat.reduceEqDiff, Nat.reduceLT, Nat.reduceAdd, Int.reduceLE, Int.reduceToNat, Nat.zero_add, if_true, if_false, reduceCtorEq, ne_eq, not_false_eq_true, forall_const, Option.map_some, List.append_nil, tt_5, tt_9, tt_47]
      have hL := rep_len 4001 0
      generalize hxs : List.take 4001 (List.drop 0 (List.take 4001 (List.replicate 4001 (0 : Int)))) = xs at *
      refine ⟨⟨by decide, List.length_replicate ..⟩, by rw [List.length_take, List.length_replicate]; exact Nat.le_refl _, ?_⟩
      refine hK _ ?_
      clear hK K
      have hLs : 4000 < (strOf xs).size := by rw [strOf_size]; omega
      generalize strOf xs = L at *
      have c18 := atomT_00 L (okP_not (List.mem_singleton.2 rfl) hLs)
      have c20 := hashT_00 [{ data := #[97] }, L] (by simp) (okP_not (s := L) (by simp) hLs)
      have c22 := sealT_00 { data := #[107] } 1 { data := #[] } L (by omega) (okP_not (s := L) (by simp) hLs)
      have c19 := pubT_00 L (okP_not (List.mem_singleton.2 rfl) hLs)
      have c15 := parts_none [] s rfl
      have c23 : FnR Try.prog G 23 [.lst 2 [], .str s] [] (.int .i64 0) [] := rfind_fn [] (by simp) s
      simp only [tabE, eSe'] at c18 c20 c22 c19 c15
      refine W.seqK fun Kw hKw => ?_
      refine W.seqK fun K hK => W.regionK tt_ok ?_
      simp only [exOps_cons, exOp_eq, exCall_eq, nx_eq, cur_eq, evL, stepQ, ev, lk, putT, erA, inB, opt, ret, onQ, ap, true_and, Nat.reduceEqDiff, Nat.reduceLT, Nat.reduceAdd, if_true, if_false, reduceCtorEq, Option.bind_some, Option.map_some]
      refine CallK.with [(0, .obj 53 (.agg [.mp 1, .mp 2, .nils])), (1, .mset (.strs [])), (2, .mset (.strs []))] [(0, .obj 53 (.agg [.mp 1, .mp 2, .nils])), (1, .mset (.strs [])), (2, .mset (.strs []))] _ _ c18 call18 (by simp only [AV.nmIn, bnd, req, ret, onQ, AV.isTup, isTupL, and_true, true_and, and_self, Bool.false_eq_true, List.append_nil, vw.vwL, vw, AV.free, Bool.or_self]; all_goals (and_intros <;> first | exact AV.subL_refl _ | omega | (simp [AV.sub, entsFree, Ent.free]; done) | rfl | (simp [AV.subL_refl]; done))) (by simp [leL, lk]) (by intro n hn; first | (left; revert hn; simp [Nm, lk]; done) | (right; revert hn; simp only [Nm, lk]; split <;> simp <;> omega) | (by_cases h1 : Nm [(0, .obj 53 (.agg [.mp 1, .mp 2, .nils])), (1, .mset (.strs [])), (2, .mset (.strs []))] n; exact .inl h1; right; revert hn h1; simp only [Nm, lk]; split <;> (try split) <;> (try split) <;> (try split) <;> (try simp) <;> (try omega))) (by simp [entsIn, Ent.nmIn, AV.nmIn, AV.nmInL, Nm, lk]) ?_
      simp only [callDel, Bool.not_true, ↓gFF, ↓nFF, exOps_cons, exOp_eq, exCall_eq, nx_eq, cur_eq, evL, evP, stepQ, ev, ofV, lk, putT, erA, inB, opt, bnd, req, ret, onQ, ap, up, er, AV.isTup, AV.isAgg, binG, binF, strF, Kd.agg, comps, szL, csize, takeI, takeC, dropC, stC, stS, Row.len, Row.sz, bldA, bslQ, zeroCs, cellsRow, strsOf, and_true, true_and, and_self, and_false, Nat.reduceEqDiff, Nat.reduceLT, Nat.reduceLeDiff, Nat.reduceAdd, Nat.reduceSub, Nat.reduceMul, Nat.sub_self, Nat.le_refl, Nat.add_zero, Nat.zero_add, if_true, if_false, Bool.false_eq_true, reduceCtorEq, List.getElem?_cons_zero, List.getElem?_cons_succ, Option.bind_some, Option.map_some, List.append_nil, List.nil_append, List.cons_append, tt_9, tt_35, beq_self_eq_true, List.map_cons, List.map_nil, List.reverse_cons, List.reverse_nil, lit2, beq_self_eq_true, List.flatten_cons, List.flatten_nil, List.length_cons, List.length_nil]
      refine CallK.with [(0, .obj 53 (.agg [.mp 1, .mp 2, .nils])), (1, .mset (.strs [])), (2, .mset (.strs []))] [(0, .obj 53 (.agg [.mp 1, .mp 2, .nils])), (1, .mset (.strs [])), (2, .mset (.strs []))] _ _ c20 call20 (by simp only [Bool.or_true, Bool.or_false, AV.nmIn, lk, opt, bnd, req, ret, onQ, AV.isTup, isTupL, Ent.row, and_true, true_and, and_self, Nat.reduceEqDiff, Nat.zero_add, if_true, if_false, reduceCtorEq, forall_const, List.append_nil, vw.vwL, vw, viewR, AV.free, Ent.row, Bool.or_self]; all_goals (and_intros <;> first | exact AV.subL_refl _ | omega | (simp [AV.sub, entsFree, Ent.free]; done) | rfl | (simp [AV.subL_refl]; done))) (by simp [leL, lk]) (by intro n hn; first | (left; revert hn; simp [Nm, lk]; done) | (right; revert hn; simp only [Nm, lk]; split <;> simp <;> omega) | (by_cases h1 : Nm [(0, .obj 53 (.agg [.mp 1, .mp 2, .nils])), (1, .mset (.strs [])), (2, .mset (.strs []))] n; exact .inl h1; right; revert hn h1; simp only [Nm, lk]; split <;> (try split) <;> (try split) <;> (try split) <;> (try simp) <;> (try omega))) (by simp [entsIn, Ent.nmIn, AV.nmIn, AV.nmInL, Nm, lk]) ?_
      simp only [callDel, Bool.not_true, ↓gFF, ↓nFF, exOps_cons, exOp_eq, exCall_eq, nx_eq, cur_eq, evL, stepQ, ev, ofV, lk, putT, erA, inB, opt, bnd, req, ret, onQ, ap, up, er, binG, binF, strF, pickF, and_true, true_and, and_self, Nat.reduceEqDiff, Nat.reduceLT, Nat.reduceAdd, if_true, if_false, reduceCtorEq, List.getElem?_cons_zero, List.getElem?_cons_succ, Option.bind_some, Option.map_some, List.nil_append, List.cons_append, beq_self_eq_true, List.map_cons, List.map_nil, List.reverse_cons, List.reverse_nil, beq_self_eq_true]
      refine CallK.with [(0, .obj 53 (.agg [.mp 1, .mp 2, .nils])), (1, .mset (.strs [])), (2, .mset (.strs []))] [(0, .obj 53 (.agg [.mp 1, .mp 2, .nils])), (1, .mset (.strs [])), (2, .mset (.strs []))] _ _ c22 call22 (by simp only [AV.nmIn, bnd, req, ret, onQ, AV.isTup, isTupL, and_true, true_and, and_self, Bool.false_eq_true, List.append_nil, vw.vwL, vw, AV.free, Bool.or_self]; all_goals (and_intros <;> first | exact AV.subL_refl _ | omega | (simp [AV.sub, entsFree, Ent.free]; done) | rfl | (simp [AV.subL_refl]; done))) (by simp [leL, lk]) (by intro n hn; first | (left; revert hn; simp [Nm, lk]; done) | (right; revert hn; simp only [Nm, lk]; split <;> simp <;> omega) | (by_cases h1 : Nm [(0, .obj 53 (.agg [.mp 1, .mp 2, .nils])), (1, .mset (.strs [])), (2, .mset (.strs []))] n; exact .inl h1; right; revert hn h1; simp only [Nm, lk]; split <;> (try split) <;> (try split) <;> (try split) <;> (try simp) <;> (try omega))) (by simp [entsIn, Ent.nmIn, AV.nmIn, AV.nmInL, Nm, lk]) ?_
      simp only [callDel, Bool.not_true, ↓gFF, ↓nFF, exOps_cons, exOp_eq, exCall_eq, nx_eq, cur_eq, evL, stepQ, ev, ofV, lk, putT, erA, inB, opt, bnd, req, ret, onQ, ap, up, er, binG, binF, strF, pickF, and_true, true_and, and_self, Nat.reduceEqDiff, Nat.reduceLT, Nat.reduceAdd, if_true, if_false, reduceCtorEq, List.getElem?_cons_zero, List.getElem?_cons_succ, Option.bind_some, Option.map_some, List.nil_append, List.cons_append, beq_self_eq_true, List.map_cons, List.map_nil, List.reverse_cons, List.reverse_nil, beq_self_eq_true]
      refine CallK.with [(0, .obj 53 (.agg [.mp 1, .mp 2, .nils])), (1, .mset (.strs [])), (2, .mset (.strs []))] [(0, .obj 53 (.agg [.mp 1, .mp 2, .nils])), (1, .mset (.strs [])), (2, .mset (.strs []))] _ _ c19 call19 (by simp only [AV.nmIn, bnd, req, ret, onQ, AV.isTup, isTupL, and_true, true_and, and_self, Bool.false_eq_true, List.append_nil, vw.vwL, vw, AV.free, Bool.or_self]; all_goals (and_intros <;> first | exact AV.subL_refl _ | omega | (simp [AV.sub, entsFree, Ent.free]; done) | rfl | (simp [AV.subL_refl]; done))) (by simp [leL, lk]) (by intro n hn; first | (left; revert hn; simp [Nm, lk]; done) | (right; revert hn; simp only [Nm, lk]; split <;> simp <;> omega) | (by_cases h1 : Nm [(0, .obj 53 (.agg [.mp 1, .mp 2, .nils])), (1, .mset (.strs [])), (2, .mset (.strs []))] n; exact .inl h1; right; revert hn h1; simp only [Nm, lk]; split <;> (try split) <;> (try split) <;> (try split) <;> (try simp) <;> (try omega))) (by simp [entsIn, Ent.nmIn, AV.nmIn, AV.nmInL, Nm, lk]) ?_
      simp only [callDel, Bool.not_true, ↓gFF, ↓nFF, exOps_cons, exOp_eq, exCall_eq, nx_eq, cur_eq, evL, stepQ, ev, ofV, lk, putT, erA, inB, opt, bnd, req, ret, onQ, ap, up, er, binG, binF, strF, pickF, and_true, true_and, and_self, Nat.reduceEqDiff, Nat.reduceLT, Nat.reduceAdd, if_true, if_false, reduceCtorEq, List.getElem?_cons_zero, List.getElem?_cons_succ, Option.bind_some, Option.map_some, List.nil_append, List.cons_append, beq_self_eq_true, List.map_cons, List.map_nil, List.reverse_cons, List.reverse_nil, beq_self_eq_true]
      refine CallK.with [(0, .obj 53 (.agg [.mp 1, .mp 2, .nils])), (1, .mset (.strs [])), (2, .mset (.strs []))] [(0, .obj 53 (.agg [.mp 1, .mp 2, .nils])), (1, .mset (.strs [])), (2, .mset (.strs []))] _ _ ca call14 (by simp only [AV.nmIn, bnd, req, ret, onQ, AV.isTup, isTupL, and_true, true_and, and_self, Bool.false_eq_true, List.append_nil, vw.vwL, vw, AV.free, Bool.or_self]; all_goals (and_intros <;> first | exact AV.subL_refl _ | omega | (simp [AV.sub, entsFree, Ent.free]; done) | rfl | (simp [AV.subL_refl]; done))) (by simp [leL, lk]) (by intro n hn; first | (left; revert hn; simp [Nm, lk]; done) | (right; revert hn; simp only [Nm, lk]; split <;> simp <;> omega) | (by_cases h1 : Nm [(0, .obj 53 (.agg [.mp 1, .mp 2, .nils])), (1, .mset (.strs [])), (2, .mset (.strs []))] n; exact .inl h1; right; revert hn h1; simp only [Nm, lk]; split <;> (try split) <;> (try split) <;> (try split) <;> (try simp) <;> (try omega))) (by simp [entsIn, Ent.nmIn, AV.nmIn, AV.nmInL, Nm, lk]) ?_
      simp only [callDel, Int.reduceBNe, ↓gFF, ↓nFF, exOps_nil, exOps_cons, exOp_eq, exCall_eq, nx_eq, cur_eq, evL, stepQ, ev, lk, putT, erA, inB, opt, bnd, req, ret, onQ, ap, up, er, binG, binF, intF, pickF, bltQ, bltV, lenF, and_true, true_and, and_self, or_false, Nat.reduceEqDiff, Nat.reduceLT, Nat.reduceAdd, if_true, if_false, reduceCtorEq, List.getElem?_cons_zero, List.getElem?_cons_succ, Option.bind_some, Option.map_some, List.nil_append, List.cons_append, tt_35, List.map_cons, List.map_nil, List.reverse_cons, List.reverse_nil]
      refine hK _ ?_
      clear hK K
      refine W.cond (b := false) (by simp only [ev, lk, Nat.reduceEqDiff, if_true, if_false, reduceCtorEq]) (fun h => absurd h (by simp)) (fun _ => W.skip ?_)
      simp only [thn_normal]
      refine hKw _ ?_
      refine W.seqK fun K hK => W.regionK tt_ok ?_
      simp only [exOps_cons, exOp_eq, exCall_eq, nx_eq, cur_eq, evL, stepQ, ev, lk, putT, erA, inB, opt, ret, onQ, ap, true_and, Nat.reduceEqDiff, Nat.reduceLT, Nat.reduceAdd, if_true, if_false, reduceCtorEq, Option.bind_some, Option.map_some]
      refine CallK.with [(0, .obj 53 (.agg [.mp 1, .mp 2, .nils])), (1, .mset (.strs [])), (2, .mset (.strs []))] [(0, .obj 53 (.agg [.mp 1, .mp 2, .nils])), (1, .mset (.strs [])), (2, .mset (.strs []))] _ _ c15 call15 (by simp only [AV.nmIn, bnd, req, ret, onQ, AV.isTup, isTupL, and_true, true_and, and_self, Bool.false_eq_true, List.append_nil, vw.vwL, vw, AV.free, AV.freeL, Bool.or_self]; all_goals (and_intros <;> first | exact AV.subL_refl _ | omega | (simp [AV.sub, entsFree, Ent.free]; done) | rfl | (simp [AV.subL_refl]; done))) (by simp [leL, lk]) (by intro n hn; first | (left; revert hn; simp [Nm, lk]; done) | (right; revert hn; simp only [Nm, lk]; split <;> simp <;> omega) | (by_cases h1 : Nm [(0, .obj 53 (.agg [.mp 1, .mp 2, .nils])), (1, .mset (.strs [])), (2, .mset (.strs []))] n; exact .inl h1; right; revert hn h1; simp only [Nm, lk]; split <;> (try split) <;> (try split) <;> (try split) <;> (try simp) <;> (try omega))) (by simp [entsIn, Ent.nmIn, AV.nmIn, AV.nmInL, Nm, lk]) ?_
      simp only [callDel, exOps_nil, exOps_cons, exOp_eq, nx_eq, cur_eq, stepQ, ev, lk, putT, erA, inB, opt, ret, onQ, ap, up, er, true_and, Nat.reduceEqDiff, Nat.reduceLT, Nat.reduceAdd, if_true, if_false, reduceCtorEq, List.getElem?_cons_zero, List.getElem?_cons_succ, List.nil_append, List.cons_append, List.map_cons, List.map_nil, List.reverse_cons, List.reverse_nil]
      refine hK _ ?_
      clear hK K
      refine W.seqK fun K hK => W.regionK tt_ok ?_
      simp only [exOps_cons, exOp_eq, nx_eq, cur_eq, stepQ, ev, lk, putT, erA, inB, opt, req, ret, onQ, ap, Kd.agg, comps, Row.len, Row.sz, Row.take, mkQ, zeroCs, cellsRow, and_true, true_and, Nat.reduceEqDiff, Nat.reduceLT, Nat.reduceAdd, Int.reduceLE, Int.reduceToNat, if_true, if_false, cond_true, reduceCtorEq, tt_27, tt_41, List.take_replicate, Nat.min_self, List.replicate_zero]
      refine ⟨by decide, ?_⟩
      simp only [exOps_cons, exOp_eq, exCall_eq, nx_eq, cur_eq, evL, stepQ, ev, lk, putT, erA, inB, opt, ret, onQ, ap, up, er, true_and, Nat.reduceEqDiff, Nat.reduceLT, Nat.reduceAdd, if_true, if_false, reduceCtorEq, Option.bind_some, Option.map_some]
      refine CallK.pure _ _ c23 call23 (by simp only [Bool.or_false, AV.nmIn, lk, opt, bnd, req, ret, onQ, AV.isTup, isTupL, Ent.row, and_true, true_and, and_self, Nat.reduceEqDiff, Nat.zero_le, Nat.add_zero, if_true, if_false, reduceCtorEq, forall_const, List.append_nil, vw.vwL, vw, viewL, viewEL, AV.free, Ent.row, Bool.or_self]; all_goals (and_intros <;> first | exact AV.subL_refl _ | omega | (simp [AV.sub]; done) | rfl | (simp [AV.subL_refl]; done) | (simp; exact AV.subL_refl _))) ?_
      simp only [↓gTT, ↓gFF, ↓nTT, ↓nFF, decide_false, exOps_nil, exOps_cons, exOp_eq, exCall_eq, nx_eq, cur_eq, evL, stepQ, ev, ofV, lk, putT, erA, inB, opt, bnd, req, ret, onQ, ap, binG, binF, intF, eqOp, pickF, bltQ, bltV, lenF, and_true, true_and, and_self, or_false, Nat.reduceEqDiff, Nat.reduceLT, Nat.reduceAdd, Int.reduceLT, if_true, if_false, reduceCtorEq, List.getElem?_cons_zero, List.getElem?_cons_succ, Option.bind_some, Option.map_some, tt_4, tt_35, beq_self_eq_true, List.take_nil]
      refine hK _ ?_
      clear hK K
      refine W.ret ?_
      simp only [fin_ret, finB, resQ, resV, leL, AV.nmIn, entsIn, lk, opt, bnd, req, ret, onQ, AV.isTup, and_self, Nat.reduceEqDiff, if_true, if_false, reduceCtorEq]
      done
    · have hll : (encL T1).length < 1000 := by rw [encL_len]; omega
      have hne := encL_ne ht1
      have ca := all_X (encL T1) hne hll 64 (by omega)
      simp only [tabS_ne 3 ht1, tbX] at ca ⊢
      refine W.seqK fun K hK => W.regionK tt_ok ?_
      simp only [exOps_cons, exOp_eq, exCall_eq, nx_eq, cur_eq, evL, stepQ, ev, lk, putT, erA, inB, opt, ret, onQ, ap, true_and, Nat.reduceEqDiff, Nat.reduceLT, Nat.reduceAdd, if_true, if_false, reduceCtorEq, Option.bind_some, Option.map_some]
      refine CallK.with [(0, .obj 53 (.agg [.mp 1, .mp 2, .sl 3 1 0 (encL T1).length])), (1, .mset (.strs (nmL (encL T1)))), (2, .mset (.strs (tmL (encL T1)))), (3, .vec 9 (.strs (alL (encL T1))))] [(64, .vec 9 (.strs (alL (encL T1)))), (0, .obj 53 (.agg [.mp 1, .mp 2, .sl 3 1 0 (encL T1).length])), (1, .mset (.strs (nmL (encL T1)))), (2, .mset (.strs (tmL (encL T1)))), (3, .vec 9 (.strs (alL (encL T1))))] _ _ ca call14 (by simp only [AV.nmIn, bnd, req, ret, onQ, AV.isTup, isTupL, and_true, true_and, and_self, Bool.false_eq_true, List.append_nil, vw.vwL, vw, AV.free, Bool.or_self]; all_goals (and_intros <;> first | exact AV.subL_refl _ | omega | (simp [AV.sub, entsFree, Ent.free, Row.free]; done) | rfl | (simp [AV.subL_refl]; done))) (by simp [leL, lk]) (by intro n hn; first | (left; revert hn; simp [Nm, lk]; done) | (right; revert hn; simp only [Nm, lk]; split <;> simp <;> omega) | (by_cases h1 : Nm [(0, .obj 53 (.agg [.mp 1, .mp 2, .sl 3 1 0 (encL T1).length])), (1, .mset (.strs (nmL (encL T1)))), (2, .mset (.strs (tmL (encL T1)))), (3, .vec 9 (.strs (alL (encL T1))))] n; exact .inl h1; right; revert hn h1; simp only [Nm, lk]; split <;> (try split) <;> (try split) <;> (try split) <;> (try simp) <;> (try omega))) (by simp [entsIn, Ent.nmIn, Row.nmIn, AV.nmIn, AV.nmInL, Nm, lk]) ?_
      simp only [callDel, exOps_nil, exOps_cons, exOp_eq, exCall_eq, nx_eq, cur_eq, evL, stepQ, ev, lk, putT, erA, inB, opt, bnd, req, ret, onQ, ap, up, er, bltQ, bltV, lenF, true_and, and_self, or_false, Nat.reduceEqDiff, Nat.reduceLT, Nat.reduceAdd, if_true, if_false, reduceCtorEq, List.getElem?_cons_zero, Option.bind_some, Option.map_some, List.nil_append, List.cons_append, tt_35, List.map_cons, List.map_nil, List.reverse_cons, List.reverse_nil]
      refine hK _ ?_
      clear hK K
      refine W.seqK fun K hK => W.regionK tt_ok ?_
      simp only [exOps_nil, exOps_cons, exOp_eq, nx_eq, cur_eq, stepQ, ev, ofV, lk, putT, erA, inB, opt, bnd, req, ret, onQ, ap, up, er, intsOf, cvQ, s2bQ, srcQ, Row.len, Row.sz, Row.take, Row.drop, Ent.row, mkQ, zeroCs, cellsRow, and_true, true_and, and_self, Nat.reduceEqDiff, Nat.reduceLT, Nat.reduceAdd, Int.reduceLE, Int.reduceToNat, Nat.zero_add, if_true, if_false, reduceCtorEq, ne_eq, not_false_eq_true, forall_const, Option.map_some, List.append_nil, tt_5, tt_9, tt_47]
      have hL := rep_len 4001 0
      generalize hxs : List.take 4001 (List.drop 0 (List.take 4001 (List.replicate 4001 (0 : Int)))) = xs at *
      refine ⟨⟨by decide, List.length_replicate ..⟩, by rw [List.length_take, List.length_replicate]; exact Nat.le_refl _, ?_⟩
      refine hK _ ?_
      clear hK K
      have hLs : 4000 < (strOf xs).size := by rw [strOf_size]; omega
      generalize strOf xs = L at *
      have n18 := okP_not (ps := [L]) (List.mem_singleton.2 rfl) hLs
      have n20 := okP_not (ps := [{ data := #[97] }, L]) (s := L) (by simp) hLs
      have n22 := okP_not (ps := [{ data := #[107] }, strOf (numK 1 8), { data := #[] }, L]) (s := L) (by simp) hLs
      have c18 := atomXY L (encL T1) hne hll 3 192 (by omega) (by omega) (by omega) (by omega)
      rw [putN_no' n18, putL_no n18] at c18
      have c20 := hashXY [{ data := #[97] }, L] (by simp) (encL T1) hne hll 192 288 (by omega) (by omega) (by omega) (by omega)
      rw [putN_no' n20, putL_no n20] at c20
      have c22 := sealXY { data := #[107] } 1 { data := #[] } L (by omega) (encL T1) hne hll 288 384 (by omega) (by omega) (by omega) (by omega)
      rw [putN_no' n22, putL_no n22] at c22
      have c19 := pubXY L (encL T1) hne hll 384 480 (by omega) (by omega) (by omega) (by omega)
      rw [putN_no' n18, putL_no n18] at c19
      have ca2 := allXY (encL T1) hne hll 480 560 (by omega) (by omega) (by omega)
      have c15 := parts_fn T1 ht1 hok1 (by omega) s 480 (by omega)
      have c23 := rfind_fn (List.replicate (encL T1).length (.agg [.int .u8 0, .nils])) (by rw [List.length_replicate]; omega) s
      rw [List.length_replicate] at c23
      have hgz : (0 : Int) ≤ (encL T1).length := by omega
      have hb : (32 : Int) * (encL T1).length ≤ 281474976710656 := by omega
      have hb2 : ((encL T1).length : Int) ≤ 9223372036854775807 := by omega
      simp only [tbX, eSe'] at c18 c20 c22 c19 c15 ca2
      refine W.seqK fun Kw hKw => ?_
      refine W.seqK fun K hK => W.regionK tt_ok ?_
      simp only [exOps_cons, exOp_eq, exCall_eq, nx_eq, cur_eq, evL, stepQ, ev, lk, putT, erA, inB, opt, ret, onQ, ap, true_and, Nat.reduceEqDiff, Nat.reduceLT, Nat.reduceAdd, if_true, if_false, reduceCtorEq, Option.bind_some, Option.map_some]
      refine CallK.with [(0, .obj 53 (.agg [.mp 1, .mp 2, .sl 3 1 0 (encL T1).length])), (1, .mset (.strs (nmL (encL T1)))), (2, .mset (.strs (tmL (encL T1)))), (3, .vec 9 (.strs (alL (encL T1))))] [(0, .obj 53 (.agg [.mp 1, .mp 2, .sl 192 1 0 (encL T1).length])), (1, .mset (.strs (nmL (encL T1)))), (2, .mset (.strs (tmL (encL T1)))), (192, .vec 9 (.strs (alL (encL T1))))] _ _ c18 call18 (by simp only [AV.nmIn, bnd, req, ret, onQ, AV.isTup, isTupL, and_true, true_and, and_self, Bool.false_eq_true, List.append_nil, vw.vwL, vw, AV.free, Bool.or_self]; all_goals (and_intros <;> first | exact AV.subL_refl _ | omega | (simp [AV.sub, entsFree, Ent.free, Row.free]; done) | rfl | (simp [AV.subL_refl]; done))) (by simp [leL, lk]) (by intro n hn; first | (left; revert hn; simp [Nm, lk]; done) | (right; revert hn; simp only [Nm, lk]; split <;> simp <;> omega) | (by_cases h1 : Nm [(0, .obj 53 (.agg [.mp 1, .mp 2, .sl 3 1 0 (encL T1).length])), (1, .mset (.strs (nmL (encL T1)))), (2, .mset (.strs (tmL (encL T1)))), (3, .vec 9 (.strs (alL (encL T1))))] n; exact .inl h1; right; revert hn h1; simp only [Nm, lk]; split <;> (try split) <;> (try split) <;> (try split) <;> (try simp) <;> (try omega))) (by simp [entsIn, Ent.nmIn, Row.nmIn, AV.nmIn, AV.nmInL, Nm, lk]) ?_
      simp only [callDel, Bool.not_true, ↓gFF, ↓nFF, exOps_cons, exOp_eq, exCall_eq, nx_eq, cur_eq, evL, evP, stepQ, ev, ofV, lk, putT, erA, inB, opt, bnd, req, ret, onQ, ap, up, er, AV.isTup, AV.isAgg, binG, binF, strF, Kd.agg, comps, szL, csize, takeI, takeC, dropC, stC, stS, Row.len, Row.sz, bldA, bslQ, zeroCs, cellsRow, strsOf, and_true, true_and, and_self, and_false, Nat.reduceEqDiff, Nat.reduceLT, Nat.reduceLeDiff, Nat.reduceAdd, Nat.reduceSub, Nat.reduceMul, Nat.sub_self, Nat.le_refl, Nat.add_zero, Nat.zero_add, if_true, if_false, Bool.false_eq_true, reduceCtorEq, List.getElem?_cons_zero, List.getElem?_cons_succ, Option.bind_some, Option.map_some, List.append_nil, List.nil_append, List.cons_append, tt_9, tt_35, beq_self_eq_true, List.map_cons, List.map_nil, List.reverse_cons, List.reverse_nil, lit2, beq_self_eq_true, List.flatten_cons, List.flatten_nil, List.length_cons, List.length_nil]
      refine CallK.with [(0, .obj 53 (.agg [.mp 1, .mp 2, .sl 192 1 0 (encL T1).length])), (1, .mset (.strs (nmL (encL T1)))), (2, .mset (.strs (tmL (encL T1)))), (192, .vec 9 (.strs (alL (encL T1))))] [(0, .obj 53 (.agg [.mp 1, .mp 2, .sl 288 1 0 (encL T1).length])), (1, .mset (.strs (nmL (encL T1)))), (2, .mset (.strs (tmL (encL T1)))), (288, .vec 9 (.strs (alL (encL T1))))] _ _ c20 call20 (by simp only [Bool.or_true, Bool.or_false, AV.nmIn, lk, opt, bnd, req, ret, onQ, AV.isTup, isTupL, Ent.row, and_true, true_and, and_self, Nat.reduceEqDiff, Nat.zero_add, if_true, if_false, reduceCtorEq, forall_const, List.append_nil, vw.vwL, vw, viewR, AV.free, Ent.row, Bool.or_self]; all_goals (and_intros <;> first | exact AV.subL_refl _ | omega | (simp [AV.sub, entsFree, Ent.free, Row.free]; done) | rfl | (simp [AV.subL_refl]; done))) (by simp [leL, lk]) (by intro n hn; first | (left; revert hn; simp [Nm, lk]; done) | (right; revert hn; simp only [Nm, lk]; split <;> simp <;> omega) | (by_cases h1 : Nm [(0, .obj 53 (.agg [.mp 1, .mp 2, .sl 192 1 0 (encL T1).length])), (1, .mset (.strs (nmL (encL T1)))), (2, .mset (.strs (tmL (encL T1)))), (192, .vec 9 (.strs (alL (encL T1))))] n; exact .inl h1; right; revert hn h1; simp only [Nm, lk]; split <;> (try split) <;> (try split) <;> (try split) <;> (try simp) <;> (try omega))) (by simp [entsIn, Ent.nmIn, Row.nmIn, AV.nmIn, AV.nmInL, Nm, lk]) ?_
      simp only [callDel, Bool.not_true, ↓gFF, ↓nFF, exOps_cons, exOp_eq, exCall_eq, nx_eq, cur_eq, evL, stepQ, ev, ofV, lk, putT, erA, inB, opt, bnd, req, ret, onQ, ap, up, er, binG, binF, strF, pickF, and_true, true_and, and_self, Nat.reduceEqDiff, Nat.reduceLT, Nat.reduceAdd, if_true, if_false, reduceCtorEq, List.getElem?_cons_zero, List.getElem?_cons_succ, Option.bind_some, Option.map_some, List.nil_append, List.cons_append, beq_self_eq_true, List.map_cons, List.map_nil, List.reverse_cons, List.reverse_nil, beq_self_eq_true]
      refine CallK.with [(0, .obj 53 (.agg [.mp 1, .mp 2, .sl 288 1 0 (encL T1).length])), (1, .mset (.strs (nmL (encL T1)))), (2, .mset (.strs (tmL (encL T1)))), (288, .vec 9 (.strs (alL (encL T1))))] [(0, .obj 53 (.agg [.mp 1, .mp 2, .sl 384 1 0 (encL T1).length])), (1, .mset (.strs (nmL (encL T1)))), (2, .mset (.strs (tmL (encL T1)))), (384, .vec 9 (.strs (alL (encL T1))))] _ _ c22 call22 (by simp only [AV.nmIn, bnd, req, ret, onQ, AV.isTup, isTupL, and_true, true_and, and_self, Bool.false_eq_true, List.append_nil, vw.vwL, vw, AV.free, Bool.or_self]; all_goals (and_intros <;> first | exact AV.subL_refl _ | omega | (simp [AV.sub, entsFree, Ent.free, Row.free]; done) | rfl | (simp [AV.subL_refl]; done))) (by simp [leL, lk]) (by intro n hn; first | (left; revert hn; simp [Nm, lk]; done) | (right; revert hn; simp only [Nm, lk]; split <;> simp <;> omega) | (by_cases h1 : Nm [(0, .obj 53 (.agg [.mp 1, .mp 2, .sl 288 1 0 (encL T1).length])), (1, .mset (.strs (nmL (encL T1)))), (2, .mset (.strs (tmL (encL T1)))), (288, .vec 9 (.strs (alL (encL T1))))] n; exact .inl h1; right; revert hn h1; simp only [Nm, lk]; split <;> (try split) <;> (try split) <;> (try split) <;> (try simp) <;> (try omega))) (by simp [entsIn, Ent.nmIn, Row.nmIn, AV.nmIn, AV.nmInL, Nm, lk]) ?_
      simp only [callDel, Bool.not_true, ↓gFF, ↓nFF, exOps_cons, exOp_eq, exCall_eq, nx_eq, cur_eq, evL, stepQ, ev, ofV, lk, putT, erA, inB, opt, bnd, req, ret, onQ, ap, up, er, binG, binF, strF, pickF, and_true, true_and, and_self, Nat.reduceEqDiff, Nat.reduceLT, Nat.reduceAdd, if_true, if_false, reduceCtorEq, List.getElem?_cons_zero, List.getElem?_cons_succ, Option.bind_some, Option.map_some, List.nil_append, List.cons_append, beq_self_eq_true, List.map_cons, List.map_nil, List.reverse_cons, List.reverse_nil, beq_self_eq_true]
      refine CallK.with [(0, .obj 53 (.agg [.mp 1, .mp 2, .sl 384 1 0 (encL T1).length])), (1, .mset (.strs (nmL (encL T1)))), (2, .mset (.strs (tmL (encL T1)))), (384, .vec 9 (.strs (alL (encL T1))))] [(0, .obj 53 (.agg [.mp 1, .mp 2, .sl 480 1 0 (encL T1).length])), (1, .mset (.strs (nmL (encL T1)))), (2, .mset (.strs (tmL (encL T1)))), (480, .vec 9 (.strs (alL (encL T1))))] _ _ c19 call19 (by simp only [AV.nmIn, bnd, req, ret, onQ, AV.isTup, isTupL, and_true, true_and, and_self, Bool.false_eq_true, List.append_nil, vw.vwL, vw, AV.free, Bool.or_self]; all_goals (and_intros <;> first | exact AV.subL_refl _ | omega | (simp [AV.sub, entsFree, Ent.free, Row.free]; done) | rfl | (simp [AV.subL_refl]; done))) (by simp [leL, lk]) (by intro n hn; first | (left; revert hn; simp [Nm, lk]; done) | (right; revert hn; simp only [Nm, lk]; split <;> simp <;> omega) | (by_cases h1 : Nm [(0, .obj 53 (.agg [.mp 1, .mp 2, .sl 384 1 0 (encL T1).length])), (1, .mset (.strs (nmL (encL T1)))), (2, .mset (.strs (tmL (encL T1)))), (384, .vec 9 (.strs (alL (encL T1))))] n; exact .inl h1; right; revert hn h1; simp only [Nm, lk]; split <;> (try split) <;> (try split) <;> (try split) <;> (try simp) <;> (try omega))) (by simp [entsIn, Ent.nmIn, Row.nmIn, AV.nmIn, AV.nmInL, Nm, lk]) ?_
      simp only [callDel, Bool.not_true, ↓gFF, ↓nFF, exOps_cons, exOp_eq, exCall_eq, nx_eq, cur_eq, evL, stepQ, ev, ofV, lk, putT, erA, inB, opt, bnd, req, ret, onQ, ap, up, er, binG, binF, strF, pickF, and_true, true_and, and_self, Nat.reduceEqDiff, Nat.reduceLT, Nat.reduceAdd, if_true, if_false, reduceCtorEq, List.getElem?_cons_zero, List.getElem?_cons_succ, Option.bind_some, Option.map_some, List.nil_append, List.cons_append, beq_self_eq_true, List.map_cons, List.map_nil, List.reverse_cons, List.reverse_nil, beq_self_eq_true]
      refine CallK.with [(0, .obj 53 (.agg [.mp 1, .mp 2, .sl 480 1 0 (encL T1).length])), (1, .mset (.strs (nmL (encL T1)))), (2, .mset (.strs (tmL (encL T1)))), (480, .vec 9 (.strs (alL (encL T1))))] [(560, .vec 9 (.strs (alL (encL T1)))), (0, .obj 53 (.agg [.mp 1, .mp 2, .sl 480 1 0 (encL T1).length])), (1, .mset (.strs (nmL (encL T1)))), (2, .mset (.strs (tmL (encL T1)))), (480, .vec 9 (.strs (alL (encL T1))))] _ _ ca2 call14 (by simp only [AV.nmIn, bnd, req, ret, onQ, AV.isTup, isTupL, and_true, true_and, and_self, Bool.false_eq_true, List.append_nil, vw.vwL, vw, AV.free, Bool.or_self]; all_goals (and_intros <;> first | exact AV.subL_refl _ | omega | (simp [AV.sub, entsFree, Ent.free, Row.free]; done) | rfl | (simp [AV.subL_refl]; done))) (by simp [leL, lk]) (by intro n hn; first | (left; revert hn; simp [Nm, lk]; done) | (right; revert hn; simp only [Nm, lk]; split <;> simp <;> omega) | (by_cases h1 : Nm [(0, .obj 53 (.agg [.mp 1, .mp 2, .sl 480 1 0 (encL T1).length])), (1, .mset (.strs (nmL (encL T1)))), (2, .mset (.strs (tmL (encL T1)))), (480, .vec 9 (.strs (alL (encL T1))))] n; exact .inl h1; right; revert hn h1; simp only [Nm, lk]; split <;> (try split) <;> (try split) <;> (try split) <;> (try simp) <;> (try omega))) (by simp [entsIn, Ent.nmIn, Row.nmIn, AV.nmIn, AV.nmInL, Nm, lk]) ?_
      simp only [callDel, ↓gFF, ↓nFF, exOps_nil, exOps_cons, exOp_eq, exCall_eq, nx_eq, cur_eq, evL, stepQ, ev, lk, putT, erA, inB, opt, bnd, req, ret, onQ, ap, up, er, binG, binF, intF, pickF, bltQ, bltV, lenF, and_true, true_and, and_self, or_false, Nat.reduceEqDiff, Nat.reduceLT, Nat.reduceAdd, if_true, if_false, reduceCtorEq, List.getElem?_cons_zero, List.getElem?_cons_succ, Option.bind_some, Option.map_some, List.nil_append, List.cons_append, tt_35, List.map_cons, List.map_nil, List.reverse_cons, List.reverse_nil, bne_self_eq_false]
      refine hK _ ?_
      clear hK K
      refine W.cond (b := false) (by simp only [ev, lk, Nat.reduceEqDiff, if_true, if_false, reduceCtorEq]) (fun h => absurd h (by simp)) (fun _ => W.skip ?_)
      simp only [thn_normal]
      refine hKw _ ?_
      have hfI : fI (encL T1).length s = match fndI T1 s with | some i => i + 1 | none => 0 := by rw [fI, encL_len]; rfl
      cases hf : fndI T1 s with
      | none =>
        have hp : prT T1 s = .tup [.int .u8 0, .nils, .bool false] := by rw [prT, hf]; rfl
        rw [hp] at c15
        rw [hf] at hfI
        have c23 : FnR Try.prog G 23 [.lst 2 (List.replicate (encL T1).length (.agg [.int .u8 0, .nils])), .str s] [] (.int .i64 0) [] := by rw [hfI] at c23; exact c23
        refine W.seqK fun K hK => W.regionK tt_ok ?_
        simp only [exOps_cons, exOp_eq, exCall_eq, nx_eq, cur_eq, evL, stepQ, ev, lk, putT, erA, inB, opt, ret, onQ, ap, true_and, Nat.reduceEqDiff, Nat.reduceLT, Nat.reduceAdd, if_true, if_false, reduceCtorEq, Option.bind_some, Option.map_some]
        refine CallK.with [(0, .obj 53 (.agg [.mp 1, .mp 2, .sl 480 1 0 (encL T1).length])), (1, .mset (.strs (nmL (encL T1)))), (2, .mset (.strs (tmL (encL T1)))), (480, .vec 9 (.strs (alL (encL T1))))] [(0, .obj 53 (.agg [.mp 1, .mp 2, .sl 480 1 0 (encL T1).length])), (1, .mset (.strs (nmL (encL T1)))), (2, .mset (.strs (tmL (encL T1)))), (480, .vec 9 (.strs (alL (encL T1))))] _ _ c15 call15 (by simp only [AV.nmIn, bnd, req, ret, onQ, AV.isTup, isTupL, and_true, true_and, and_self, Bool.false_eq_true, List.append_nil, vw.vwL, vw, AV.free, AV.freeL, Bool.or_self]; all_goals (and_intros <;> first | exact AV.subL_refl _ | omega | (simp [AV.sub, entsFree, Ent.free, Row.free]; done) | rfl | (simp [AV.subL_refl]; done))) (by simp [leL, lk]) (by intro n hn; first | (left; revert hn; simp [Nm, lk]; done) | (right; revert hn; simp only [Nm, lk]; split <;> simp <;> omega) | (by_cases h1 : Nm [(0, .obj 53 (.agg [.mp 1, .mp 2, .sl 480 1 0 (encL T1).length])), (1, .mset (.strs (nmL (encL T1)))), (2, .mset (.strs (tmL (encL T1)))), (480, .vec 9 (.strs (alL (encL T1))))] n; exact .inl h1; right; revert hn h1; simp only [Nm, lk]; split <;> (try split) <;> (try split) <;> (try split) <;> (try simp) <;> (try omega))) (by simp [entsIn, Ent.nmIn, Row.nmIn, AV.nmIn, AV.nmInL, Nm, lk]) ?_
        simp only [callDel, exOps_nil, exOps_cons, exOp_eq, nx_eq, cur_eq, stepQ, ev, lk, putT, erA, inB, opt, ret, onQ, ap, up, er, true_and, Nat.reduceEqDiff, Nat.reduceLT, Nat.reduceAdd, if_true, if_false, reduceCtorEq, List.getElem?_cons_zero, List.getElem?_cons_succ, List.nil_append, List.cons_append, List.map_cons, List.map_nil, List.reverse_cons, List.reverse_nil]
        refine hK _ ?_
        clear hK K
        refine W.seqK fun K hK => W.regionK tt_ok ?_
        simp only [exOps_cons, exOp_eq, exCall_eq, nx_eq, cur_eq, evL, stepQ, ev, lk, putT, erA, inB, opt, req, ret, onQ, ap, up, er, Kd.agg, comps, Row.len, Row.sz, Row.take, mkQ, zeroCs, cellsRow, and_true, true_and, and_self, Nat.reduceEqDiff, Nat.reduceLT, Nat.reduceAdd, Int.toNat_natCast, if_true, if_false, cond_true, reduceCtorEq, Option.bind_some, Option.map_some, tt_27, tt_41, chunks_rep, List.length_replicate, List.take_replicate, Nat.min_self, Int.toNat_natCast]
        refine ⟨by omega, ?_⟩
        refine CallK.pure _ _ c23 call23 (by simp only [Bool.or_false, AV.nmIn, lk, opt, bnd, req, ret, onQ, AV.isTup, isTupL, Ent.row, and_true, true_and, and_self, Nat.reduceEqDiff, Nat.zero_add, if_true, if_false, reduceCtorEq, forall_const, List.append_nil, viewEL_rep, vw.vwL, vw, viewL, AV.free, Ent.row, Bool.or_self]; all_goals (and_intros <;> first | exact AV.subL_refl _ | omega | (simp [AV.sub]; done) | rfl | (simp [AV.subL_refl]; done) | (simp; exact AV.subL_refl _))) ?_
        simp only [↓gTT, ↓gFF, ↓nTT, ↓nFF, decide_false, exOps_nil, exOps_cons, exOp_eq, exCall_eq, nx_eq, cur_eq, evL, stepQ, ev, ofV, lk, putT, erA, inB, opt, bnd, req, ret, onQ, ap, binG, binF, intF, eqOp, pickF, bltQ, bltV, lenF, and_true, true_and, and_self, or_false, Nat.reduceEqDiff, Nat.reduceLT, Nat.reduceAdd, Int.reduceLT, if_true, if_false, reduceCtorEq, List.getElem?_cons_zero, List.getElem?_cons_succ, Option.bind_some, Option.map_some, tt_4, tt_35, beq_self_eq_true]
        refine hK _ ?_
        clear hK K
        refine W.ret ?_
        simp only [fin_ret, finB, resQ, resV, leL, AV.nmIn, entsIn, lk, opt, bnd, req, ret, onQ, AV.isTup, and_self, Nat.reduceEqDiff, if_true, if_false, reduceCtorEq]
        done
      | some i =>
        obtain ⟨t, ht, _⟩ := fndI_some hf
        have hp : prT T1 s = .tup [.int .u8 (t.1 : Nat), .lstS t.2, .bool true] := by rw [prT, hf]; show (match T1[i]? with | some t => _ | none => _) = _; rw [ht]
        rw [hp] at c15
        rw [hf] at hfI
        have c23 : FnR Try.prog G 23 [.lst 2 (List.replicate (encL T1).length (.agg [.int .u8 0, .nils])), .str s] [] (.int .i64 (i + 1 : Nat)) [] := by rw [hfI] at c23; exact c23
        have hpos : (0 : Int) < ((i + 1 : Nat) : Int) := by omega
        refine W.seqK fun K hK => W.regionK tt_ok ?_
        simp only [exOps_cons, exOp_eq, exCall_eq, nx_eq, cur_eq, evL, stepQ, ev, lk, putT, erA, inB, opt, ret, onQ, ap, true_and, Nat.reduceEqDiff, Nat.reduceLT, Nat.reduceAdd, if_true, if_false, reduceCtorEq, Option.bind_some, Option.map_some]
        refine CallK.with [(0, .obj 53 (.agg [.mp 1, .mp 2, .sl 480 1 0 (encL T1).length])), (1, .mset (.strs (nmL (encL T1)))), (2, .mset (.strs (tmL (encL T1)))), (480, .vec 9 (.strs (alL (encL T1))))] [(0, .obj 53 (.agg [.mp 1, .mp 2, .sl 480 1 0 (encL T1).length])), (1, .mset (.strs (nmL (encL T1)))), (2, .mset (.strs (tmL (encL T1)))), (480, .vec 9 (.strs (alL (encL T1))))] _ _ c15 call15 (by simp only [AV.nmIn, bnd, req, ret, onQ, AV.isTup, isTupL, and_true, true_and, and_self, Bool.false_eq_true, List.append_nil, vw.vwL, vw, AV.free, AV.freeL, Bool.or_self]; all_goals (and_intros <;> first | exact AV.subL_refl _ | omega | (simp [AV.sub, entsFree, Ent.free, Row.free]; done) | rfl | (simp [AV.subL_refl]; done))) (by simp [leL, lk]) (by intro n hn; first | (left; revert hn; simp [Nm, lk]; done) | (right; revert hn; simp only [Nm, lk]; split <;> simp <;> omega) | (by_cases h1 : Nm [(0, .obj 53 (.agg [.mp 1, .mp 2, .sl 480 1 0 (encL T1).length])), (1, .mset (.strs (nmL (encL T1)))), (2, .mset (.strs (tmL (encL T1)))), (480, .vec 9 (.strs (alL (encL T1))))] n; exact .inl h1; right; revert hn h1; simp only [Nm, lk]; split <;> (try split) <;> (try split) <;> (try split) <;> (try simp) <;> (try omega))) (by simp [entsIn, Ent.nmIn, Row.nmIn, AV.nmIn, AV.nmInL, Nm, lk]) ?_
        simp only [callDel, exOps_nil, exOps_cons, exOp_eq, nx_eq, cur_eq, stepQ, ev, lk, putT, erA, inB, opt, ret, onQ, ap, up, er, true_and, Nat.reduceEqDiff, Nat.reduceLT, Nat.reduceAdd, if_true, if_false, reduceCtorEq, List.getElem?_cons_zero, List.getElem?_cons_succ, List.nil_append, List.cons_append, List.map_cons, List.map_nil, List.reverse_cons, List.reverse_nil]
        refine hK _ ?_
        clear hK K
        refine W.seqK fun K hK => W.regionK tt_ok ?_
        simp only [exOps_cons, exOp_eq, exCall_eq, nx_eq, cur_eq, evL, stepQ, ev, lk, putT, erA, inB, opt, req, ret, onQ, ap, up, er, Kd.agg, comps, Row.len, Row.sz, Row.take, mkQ, zeroCs, cellsRow, and_true, true_and, and_self, Nat.reduceEqDiff, Nat.reduceLT, Nat.reduceAdd, Int.toNat_natCast, if_true, if_false, cond_true, reduceCtorEq, Option.bind_some, Option.map_some, tt_27, tt_41, chunks_rep, List.length_replicate, List.take_replicate, Nat.min_self, Int.toNat_natCast]
        refine ⟨by omega, ?_⟩
        refine CallK.pure _ _ c23 call23 (by simp only [Bool.or_false, AV.nmIn, lk, opt, bnd, req, ret, onQ, AV.isTup, isTupL, Ent.row, and_true, true_and, and_self, Nat.reduceEqDiff, Nat.zero_add, if_true, if_false, reduceCtorEq, forall_const, List.append_nil, viewEL_rep, vw.vwL, vw, viewL, AV.free, Ent.row, Bool.or_self]; all_goals (and_intros <;> first | exact AV.subL_refl _ | omega | (simp [AV.sub]; done) | rfl | (simp [AV.subL_refl]; done) | (simp; exact AV.subL_refl _))) ?_
        simp only [↓gTT, ↓gTF, ↓nTT, ↓nTF, decide_true, exOps_nil, exOps_cons, exOp_eq, nx_eq, cur_eq, stepQ, ev, ofV, lk, putT, erA, inB, opt, bnd, req, ret, onQ, ap, binG, binF, intF, eqOp, pickF, and_true, true_and, and_self, Nat.reduceEqDiff, Nat.reduceLT, Nat.reduceAdd, if_true, if_false, reduceCtorEq, List.getElem?_cons_zero, List.getElem?_cons_succ, Option.bind_some, tt_4, beq_self_eq_true, hpos]
        refine hK _ ?_
        clear hK K
        refine W.ret ?_
        simp only [fin_ret, finB, resQ, resV, leL, AV.nmIn, entsIn, lk, opt, bnd, req, ret, onQ, AV.isTup, and_self, Nat.reduceEqDiff, if_true, if_false, reduceCtorEq]
        done
end Go.Proofs.Ytjnhpklhdikcdaa
