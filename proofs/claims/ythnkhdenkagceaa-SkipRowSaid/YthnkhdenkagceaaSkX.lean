/- Skipped keys: the document's Take. -/
import Derived.Test.YthnkhdenkagceaaSkR
-- TT 3 4 9 22 24 28 33 29 47
-- SIMP viewEL_its nm_its free_its
-- KIND 14 5 5 2
-- NOENT 14 5 8
-- NOENT 14 5 9
-- NOENT 14 5 10
set_option linter.unusedVariables false
set_option linter.unusedSimpArgs false
namespace Go.Proofs.Ythnkhdenkagceaa
open Sx
set_option maxRecDepth 100000
set_option maxHeartbeats 1000000
theorem rtake_none (l : List It) (h : ByteArray) (n : Int) (hl : l.length ≤ 999999) (hn : fT l h n = -1) :
    FnR Try.prog G 14 [.lst 3 (l.map itV), .str h, .int .i64 n] [] (.tup [.lst 3 (l.map itV), .str eS, .int .i64 9]) [] := by
  have cf := find_fn l h n (by omega)
  rw [hn] at cf
  have c1 : ((-1 : Int) < 0) := by omega
  refine FnR.of_walkT (m := 34) tt_ok Try.func14 rfl rfl (by simp) ?_
  rw [show Try.f14.results.toList = [.tmp 6, .tmp 7, .tmp 8] from rfl]
  refine W.seqK fun K hK => W.regionK tt_ok ?_
  simp only [exOps_nil, exOps_cons, exOp_eq, nx_eq, cur_eq, stepQ, ev, ofV, parT, putT, erA, inB, opt, ret, onQ, ap, true_and, Nat.reduceEqDiff, Nat.reduceLT, Nat.reduceAdd, Nat.zero_add, if_false, reduceCtorEq]
  refine hK _ ?_
  clear hK K
  refine W.seqK fun K hK => W.regionK tt_ok ?_
  simp only [exOps_cons, exOp_eq, exCall_eq, nx_eq, cur_eq, evL, stepQ, ev, lk, putT, erA, inB, opt, ret, onQ, ap, true_and, Nat.reduceEqDiff, Nat.reduceLT, Nat.reduceAdd, if_true, if_false, reduceCtorEq, Option.bind_some, Option.map_some]
  refine CallK.pure _ _ cf call26 (by simp only [AV.nmIn, bnd, req, ret, onQ, AV.isTup, isTupL, true_and, and_self, Bool.false_eq_true, List.append_nil, vw.vwL, vw, AV.free, Bool.or_self]; all_goals (and_intros <;> first | exact AV.subL_refl _ | omega | (simp [AV.sub]; done) | rfl | (simp [AV.subL_refl]; done) | (simp; exact AV.subL_refl _))) ?_
  simp only [exOps_nil, exOps_cons, exOp_eq, nx_eq, cur_eq, stepQ, ev, lk, putT, erA, inB, opt, ret, onQ, ap, true_and, Nat.reduceEqDiff, Nat.reduceLT, Nat.reduceAdd, if_true, if_false, reduceCtorEq]
  refine hK _ ?_
  clear hK K
  refine W.seqK fun Kz hKz => ?_
  refine W.seqK fun K hK => W.regionK tt_ok ?_
  simp only [decide_true, exOps_nil, exOps_cons, exOp_eq, nx_eq, cur_eq, stepQ, ev, ofV, lk, putT, erA, inB, opt, bnd, req, ret, onQ, ap, binG, binF, intF, true_and, and_self, Nat.reduceEqDiff, Nat.reduceLT, Nat.reduceAdd, if_true, if_false, reduceCtorEq, c1]
  refine hK _ ?_
  clear hK K
  refine W.cond (b := true) (by simp only [ev, lk, Nat.reduceEqDiff, if_true, if_false, reduceCtorEq]) (fun _ => ?_) (fun h => absurd h (by simp))
  refine W.seqK fun K hK => W.regionK tt_ok ?_
  simp only [exOps_nil, exOps_cons, exOp_eq, nx_eq, cur_eq, stepQ, ev, ofV, lk, putT, erA, inB, opt, ret, onQ, ap, true_and, Nat.reduceEqDiff, Nat.reduceLT, Nat.reduceAdd, if_true, if_false, reduceCtorEq]
  refine hK _ ?_
  clear hK K
  refine W.ret ?_
  simp only [finT_ret, finTB, resQ, lk, opt, bnd, req, ret, onQ, AV.isTup, thn_ret, true_and, and_self, Nat.reduceEqDiff, if_true, if_false, reduceCtorEq, ne_eq]
  simp [vw, vw.vwL, bnd, req, ret, AV.nmIn]
  rfl
theorem rtake_at0 (l : List It) (h : ByteArray) (n : Int) (i : Nat) (hl : l.length ≤ 150) (hi : i < l.length) (hn : fT l h n = (i : Int)) :
    FnR Try.prog G 14 [.lst 3 (l.map itV), .str h, .int .i64 n] [] (.tup [.sl 336 3 0 (l.take i ++ l.drop (i + 1)).length, .str l[i].k, .int .i64 0]) [(336, rw2 (l.take i ++ l.drop (i + 1)))] := by
  have cf := find_fn l h n (by omega)
  rw [hn] at cf
  have c1 : ¬ ((i : Int) < 0) := by omega
  have hml : (l.map itV).length = l.length := List.length_map ..
  have he := it_get l i hi
  have hti : List.drop 0 (List.take i (l.map itV)) = (l.take i).map itV := by rw [List.drop_zero, List.map_take]
  have htj : List.drop (i + 1) (List.take l.length (l.map itV)) = (l.drop (i + 1)).map itV := by rw [List.take_of_length_le (by rw [hml]; omega), List.map_drop]
  have htk : List.drop (i + 1) (l.map itV) = (l.drop (i + 1)).map itV := by rw [List.map_drop]
  have hA : (l.take i).length = i := by rw [List.length_take]; omega
  have hB : (l.drop (i + 1)).length = l.length - (i + 1) := List.length_drop ..
  have hw : IntKind.i64.wrap ((i : Int) + 1) = ((i + 1 : Nat) : Int) := by rw [IntKind.wrap_i64]; omega
  have hAB : (l.take i).map itV ++ (l.drop (i + 1)).map itV = (l.take i ++ l.drop (i + 1)).map itV := by simp
  have hL : (l.take i ++ l.drop (i + 1)).length = l.length - 1 := by rw [List.length_append, hA, hB]; omega
  generalize l[i] = y at *
  generalize l.take i ++ l.drop (i + 1) = L at *
  generalize l.take i = A at *
  generalize l.drop (i + 1) = B at *
  have hmA : (A.map itV).length = i := by rw [List.length_map, hA]
  have hmB : (B.map itV).length = l.length - (i + 1) := by rw [List.length_map, hB]
  have htA : List.take i (A.map itV) = A.map itV := List.take_of_length_le (by omega)
  have hLL : i + (l.length - (i + 1)) = l.length - 1 := by omega
  rw [hL]
  unfold rw2
  refine FnR.of_walk (m := 34) (n0 := 0) tt_ok Try.func14 rfl rfl (by simp) (by simp [nmH]) ?_
  rw [show Try.f14.results.toList = [.tmp 6, .tmp 7, .tmp 8] from rfl]
  refine W.seqK fun K hK => W.regionK tt_ok ?_
  simp only [exOps_nil, exOps_cons, exOp_eq, nx_eq, cur_eq, stepQ, ev, ofV, parT, putT, erA, inB, opt, ret, onQ, ap, true_and, Nat.reduceEqDiff, Nat.reduceLT, Nat.reduceAdd, Nat.zero_add, if_false, reduceCtorEq]
  refine hK _ ?_
  clear hK K
  refine W.seqK fun K hK => W.regionK tt_ok ?_
  simp only [exOps_cons, exOp_eq, exCall_eq, nx_eq, cur_eq, evL, stepQ, ev, lk, putT, erA, inB, opt, ret, onQ, ap, true_and, Nat.reduceEqDiff, Nat.reduceLT, Nat.reduceAdd, if_true, if_false, reduceCtorEq, Option.bind_some, Option.map_some]
  refine CallK.pure _ _ cf call26 (by simp only [AV.nmIn, bnd, req, ret, onQ, AV.isTup, isTupL, true_and, and_self, Bool.false_eq_true, List.append_nil, vw.vwL, vw, AV.free, Bool.or_self]; all_goals (and_intros <;> first | exact AV.subL_refl _ | omega | (simp [AV.sub]; done) | rfl | (simp [AV.subL_refl]; done) | (simp; exact AV.subL_refl _))) ?_
  simp only [exOps_nil, exOps_cons, exOp_eq, nx_eq, cur_eq, stepQ, ev, lk, putT, erA, inB, opt, ret, onQ, ap, true_and, Nat.reduceEqDiff, Nat.reduceLT, Nat.reduceAdd, if_true, if_false, reduceCtorEq]
  refine hK _ ?_
  clear hK K
  refine W.seqK fun Kz hKz => ?_
  refine W.seqK fun K hK => W.regionK tt_ok ?_
  simp only [decide_false, exOps_nil, exOps_cons, exOp_eq, nx_eq, cur_eq, stepQ, ev, ofV, lk, putT, erA, inB, opt, bnd, req, ret, onQ, ap, binG, binF, intF, true_and, and_self, Nat.reduceEqDiff, Nat.reduceLT, Nat.reduceAdd, if_true, if_false, reduceCtorEq, c1]
  refine hK _ ?_
  clear hK K
  refine W.cond (b := false) (by simp only [ev, lk, Nat.reduceEqDiff, if_true, if_false, reduceCtorEq]) (fun h => absurd h (by simp)) (fun _ => W.skip ?_)
  simp only [thn_normal]
  refine hKz _ ?_
  refine W.seqK fun K hK => W.regionK tt_ok ?_
  simp only [exOps_nil, exOps_cons, exOp_eq, exCall_eq, nx_eq, cur_eq, evL, evP, stepQ, ev, lk, putT, erA, inB, opt, bnd, req, ret, onQ, ap, up, er, Kd.agg, comps, bltQ, bltV, slF, bd, bds, appQ, appV, srcQ, rowOf, Row.len, Row.sz, Row.take, Row.app, bldA, bslQ, zeroCs, cellsRow, chunks, ones, and_true, true_and, and_self, or_false, Nat.reduceEqDiff, Nat.reduceLT, Nat.reduceAdd, Nat.reduceMul, Int.toNat_natCast, Nat.le_refl, Nat.zero_le, Nat.zero_add, if_true, if_false, cond_true, reduceCtorEq, Option.bind_some, Option.map_some, List.nil_append, tt_22, tt_24, List.flatten_nil, List.length_nil, hml, List.replicate_zero, Int.toNat_natCast, hti, hmA, List.take_zero, List.nil_append]
  refine ⟨by omega, ?_⟩
  refine ⟨by omega, ?_⟩
  refine hK _ ?_
  clear hK K
  refine W.seqK fun K hK => W.drawK [⟨0, false, [], false⟩, ⟨0, false, [], false⟩, ⟨0, false, [], false⟩, ⟨0, false, [2], false⟩, ⟨0, false, [1, 2, 3], false⟩, ⟨2, false, [0, 1, 2, 3, 4], false⟩, ⟨0, false, [], false⟩, ⟨0, false, [], false⟩, ⟨0, false, [6, 7], true⟩, ⟨0, false, [6, 7, 8], true⟩, ⟨0, false, [6, 7, 8, 9], true⟩, ⟨0, false, [0, 1, 2, 3, 4, 5], false⟩, ⟨0, false, [0, 1, 2, 3, 4, 5, 6, 7, 8, 9, 10, 11], false⟩, ⟨0, false, [0, 1, 2, 3, 4, 5, 6, 7, 8, 9, 10, 11, 12], false⟩] mix tt_ok (by kernel_rfl) ?_
  simp only [exOp_eq, exCall_eq, exD_nil, exD_cons, nxD_eq, cur_eq, flI, ownB, evL, stepQ, ev, ofV, lk, putT, erA, inB, opt, bnd, req, ret, onQ, ap, up, er, binG, binF, intF, Kd.elem, ixA, asI, ldP, ldC, ldS, Kd.agg, comps, csize, takeI, takeC, dropC, fldF, bltQ, bltV, slF, bd, bds, appQ, appV, srcQ, rowOf, Row.len, Row.sz, Row.take, Row.app, and_true, true_and, and_self, or_false, Nat.reduceEqDiff, Nat.reduceLT, Nat.reduceLeDiff, Nat.reduceAdd, Nat.reduceSub, Nat.sub_self, Int.toNat_natCast, Nat.le_refl, if_true, if_false, Bool.false_eq_true, reduceCtorEq, ne_eq, not_false_eq_true, List.getElem?_cons_zero, List.getElem?_cons_succ, Option.bind_some, Option.map_some, tt_9, tt_22, tt_24, hml, hw, htj, hmB, htA, hAB, he, Int.toNat_natCast, hmA]
  refine ⟨by omega, ?_⟩
  refine ⟨by omega, ?_⟩
  refine ⟨by omega, ?_⟩
  refine hK _ ?_
  clear hK K
  rw [hLL]
  refine W.ret ?_
  simp only [fin_ret, finB, resQ, resV, leL, AV.nmIn, AV.nmInL, entsIn, lk, opt, bnd, req, ret, onQ, AV.isTup, and_true, true_and, and_self, Nat.reduceEqDiff, if_true, if_false, reduceCtorEq]
  simp [Nm, lk, Ent.nmIn, Row.nmIn, nm_its]
theorem rtake_at (Y : Nat) (l : List It) (h : ByteArray) (n : Int) (i : Nat) (hl : l.length ≤ 150) (hi : i < l.length) (hn : fT l h n = (i : Int)) :
    FnR Try.prog G 14 [.lst 3 (l.map itV), .str h, .int .i64 n] [] (.tup [.sl Y 3 0 (l.take i ++ l.drop (i + 1)).length, .str l[i].k, .int .i64 0]) [(Y, rw2 (l.take i ++ l.drop (i + 1)))] := by
  have h := (rtake_at0 l h n i hl hi hn).swap 336 Y
  have e : swp 336 Y 336 = Y := by simp [swp]
  simpa only [List.map_cons, List.map_nil, AV.map, AV.mapL, enMap, rw2, Ent.map, Row.map, ml_its, e, itV] using h
theorem call14 : Callable Try.prog 14 := ⟨_, Try.func14, by kernel_rfl, by kernel_rfl⟩
end Go.Proofs.Ythnkhdenkagceaa
