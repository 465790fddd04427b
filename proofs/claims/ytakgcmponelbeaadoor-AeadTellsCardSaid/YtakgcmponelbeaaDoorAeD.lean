/- locked: a key with the nonce of a number. -/
import Derived.Test.YtakgcmponelbeaaDoorAeC
-- TT 3 5 22 23 24 36 43
-- TOUCH 21 5
set_option linter.unusedVariables false
set_option linter.unusedSimpArgs false
namespace Go.Proofs.YtakgcmponelbeaaDoor
open Sx
set_option maxRecDepth 100000
theorem call21 : Callable Tryd.prog 21 := ⟨_, Tryd.func21, by kernel_rfl, by kernel_rfl⟩

/-- The nonce of a number. -/
def nonN (n : Int) : List Int := lowL [0, 0, 0, 0] n 8
theorem nonN_len (n : Int) : (nonN n).length = 12 := by simp [nonN, lowL_len]
theorem locked_fn (key : List Int) (n : Int) (hk : key.length = 32) :
    FnR Tryd.prog G 14 [.agg [.ints .u8 32 key], .int .u64 n] [] (.agg [.ints .u8 32 key, .ints .u8 12 (nonN n)]) [] := by
  refine FnR.of_walk (m := 12) (n0 := 0) tt_ok Tryd.func14 rfl rfl (by simp) (by simp [nmH]) ?_
  rw [show Tryd.f14.results.toList = [.cell 4 43] from rfl]
  refine W.seqK fun K hK => W.regionK tt_ok ?_
  simp only [exOps_nil, exOps_cons, exOp_eq, nx_eq, cur_eq, stepQ, ev, lk, parT, putT, erA, inB, opt, req, ret, onQ, ap, up, er, AV.isTup, true_and, and_self, Nat.reduceEqDiff, Nat.reduceLT, Nat.reduceAdd, Nat.zero_add, if_true, if_false, reduceCtorEq, tt_43]
  refine hK _ ?_
  clear hK K
  refine W.seqK fun K hK => W.drawK [⟨0, true, []⟩, ⟨1, false, []⟩, ⟨0, false, []⟩, ⟨5, false, [1, 2]⟩, ⟨0, false, [1, 2, 3]⟩, ⟨0, false, [1, 2, 3, 4]⟩, ⟨0, false, [0, 1, 2, 3, 4, 5]⟩, ⟨2, false, [0, 1, 2, 3, 4, 5, 6]⟩] mix tt_ok (by kernel_rfl) ?_
  simp only [decide_true, Bool.or_false, List.contains_nil, exOp_eq, exCall_eq, exD_cons, nxD_eq, cur_eq, flI, flE, ownB, ownL, evL, stepQ, ev, ofV, lk, putT, erA, inB, opt, bnd, req, ret, onQ, ap, up, er, intsOf, ldP, ldE, ldC, ldS, Kd.agg, comps, csize, takeC, dropC, Row.len, Row.sz, Row.take, mkQ, zeroCs, cellsRow, and_true, true_and, and_self, Nat.reduceEqDiff, Nat.reduceLT, Nat.reduceLeDiff, Nat.reduceAdd, Nat.reduceSub, Nat.reduceDiv, Int.reduceLE, Int.reduceToNat, Nat.sub_self, Nat.le_refl, Nat.add_zero, if_true, if_false, reduceCtorEq, Option.bind_some, Option.map_some, List.nil_append, List.cons_append, tt_5, tt_22, tt_24, List.replicate_succ, List.replicate_zero, List.take_succ_cons, List.take_zero]
  refine ⟨⟨by omega, by simp⟩, ?_⟩
  refine CallK.with [(48, .vec 5 (.ints .u8 [0, 0, 0, 0]))] [(80, .vec 5 (.ints .u8 (lowL [0, 0, 0, 0] n 8)))] _ _ (low_at 48 80 4 [0, 0, 0, 0] n rfl (by simp) (by decide)) call21 (by simp only [AV.nmIn, lk, bnd, req, ret, onQ, AV.isTup, isTupL, true_and, and_self, if_true, Bool.false_eq_true, List.append_nil, vw.vwL, vw, AV.free, Bool.or_self]; all_goals (and_intros <;> first | exact AV.subL_refl _ | omega | rfl | (simp []; done) | (simp [AV.subL, AV.sub, entsFree]; done))) (by simp [leL, lk]) (by intro n hn; first | (left; revert hn; simp [Nm, lk]; done) | (right; revert hn; simp only [Nm, lk]; split <;> simp <;> omega)) (by simp [entsIn, Ent.nmIn, Row.nmIn]) ?_
  simp only [callDel, exOp_eq, exD_nil, exD_cons, nxD_eq, cur_eq, flI, ownB, ownS, evP, stepQ, ev, lk, putT, erA, inB, opt, bnd, req, ret, onQ, ap, up, er, AV.isTup, AV.isAgg, ldP, ldE, Kd.agg, comps, szL, csize, takeC, dropC, stP, stE, stC, stS, stapQ, bldF, bldS, and_true, true_and, and_self, and_false, false_and, Nat.reduceEqDiff, Nat.reduceLT, Nat.reduceLeDiff, Nat.reduceAdd, Nat.reduceSub, Nat.reduceMul, Nat.sub_self, Nat.le_refl, Nat.add_zero, Nat.zero_add, if_true, if_false, reduceCtorEq, List.getElem?_cons_zero, List.getElem?_cons_succ, Option.bind_some, Option.map_some, List.append_nil, List.nil_append, List.cons_append, tt_22, tt_36, tt_43, List.map_cons, List.map_nil, List.reverse_cons, List.reverse_nil]
  have hL : (lowL [0, 0, 0, 0] n 8).length = 12 := by simp [lowL_len]
  have hT : List.take 12 (List.drop 0 (lowL [0, 0, 0, 0] n 8)) = nonN n := by
    rw [List.drop_zero, List.take_of_length_le (by omega)]; rfl
  refine ⟨by omega, by simp [tt_22, tt_36], ?_⟩
  rw [hT]
  refine hK _ ?_
  clear hK K
  refine W.ret ?_
  simp only [fin_ret, finB, resQ, resV, leL, AV.nmIn, AV.nmInL, entsIn, lk, opt, bnd, req, ret, onQ, AV.isTup, ldP, ldE, ldC, ldS, Kd.agg, comps, csize, takeC, dropC, and_self, Nat.reduceEqDiff, Nat.reduceLT, Nat.reduceLeDiff, Nat.reduceSub, Nat.sub_self, Nat.le_refl, Nat.add_zero, if_true, if_false, reduceCtorEq, Option.bind_some, Option.map_some, tt_43]
end Go.Proofs.YtakgcmponelbeaaDoor
