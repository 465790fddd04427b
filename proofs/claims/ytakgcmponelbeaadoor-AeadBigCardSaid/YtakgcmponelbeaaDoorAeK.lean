/- The statement AeadBig: the walk. -/
-- TT 3 4 5 22 23 24 26 28
-- TOUCH 9 1
import Derived.Test.YtakgcmponelbeaaDoorAeI
set_option linter.unusedVariables false
set_option linter.unusedSimpArgs false
namespace Go.Proofs.YtakgcmponelbeaaDoor
open Sx
set_option maxRecDepth 100000
set_option maxHeartbeats 2000000
theorem bt_zeros (k : Nat) : Bt (List.replicate k 0) := fun i => by
  simp only [List.getD_eq_getElem?_getD, List.getElem?_replicate]; split <;> simp
theorem big_fn (key : List Int) (n : Int) (ad : List Int) (m : Nat) (hk : key.length = 32) (hm : m < 256) :
    FnR Tryd.prog G 6 [.agg [.ints .u8 32 key, .int .u64 n, .lstI .u8 ad], .int .u8 m] [] (.bool true) [] := by
  refine FnR.of_walk (m := 92) (n0 := 0) tt_ok Tryd.func6 rfl rfl (by simp) (by simp [nmH]) ?_
  rw [show Tryd.f6.results.toList = [.tmp 4] from rfl]
  refine W.seqK fun K hK => W.regionK tt_ok ?_
  simp only [exOps_nil, exOps_cons, exOp_eq, nx_eq, cur_eq, stepQ, ev, ofV, lk, parT, putT, erA, inB, opt, req, ret, onQ, ap, up, er, AV.isTup, true_and, and_self, Nat.reduceEqDiff, Nat.reduceLT, Nat.reduceAdd, Nat.zero_add, if_true, if_false, reduceCtorEq]
  refine hK _ ?_
  clear hK K
  refine W.seqK fun Kz hKz => ?_
  refine W.seqK fun K hK => W.regionK tt_ok ?_
  simp only [exOps_cons, exOp_eq, exCall_eq, evL, ev, inB, true_and, Nat.reduceLT]
  refine CallK.pure _ _ alive_fn call8 (by simp only [ret, onQ, isTupL, true_and, Bool.false_eq_true, List.append_nil, vw.vwL, AV.free]; all_goals (and_intros <;> first | exact AV.subL_refl _ | omega | rfl | (simp []; done) | (simp; exact AV.subL_refl _) | (simp [AV.subL, AV.sub]; done))) ?_
  simp only [Bool.not_true, exOps_nil, exOps_cons, exOp_eq, nx_eq, cur_eq, stepQ, ev, lk, putT, erA, inB, opt, bnd, req, ret, onQ, ap, unF, true_and, and_self, Nat.reduceEqDiff, Nat.reduceLT, Nat.reduceAdd, if_true, if_false, reduceCtorEq]
  refine hK _ ?_
  clear hK K
  refine W.cond (b := false) (by simp only [ev, lk, Nat.reduceEqDiff, if_true, if_false, reduceCtorEq]) (fun hb => absurd hb (by simp)) (fun _ => W.skip ?_)
  rw [thn_normal]
  refine hKz _ ?_
  refine W.seqK fun Ky hKy => ?_
  refine W.seqK fun K hK => W.regionK tt_ok ?_
  simp only [exOps_nil, exOps_cons, exOp_eq, exCall_eq, nx_eq, cur_eq, evL, stepQ, ev, ofV, lk, putT, erA, inB, opt, bnd, req, ret, onQ, ap, binG, binF, intF, ldP, ldE, ldC, ldS, Kd.agg, comps, csize, takeI, takeC, dropC, fldF, bltQ, bltV, lenF, and_true, true_and, and_self, or_false, Nat.reduceEqDiff, Nat.reduceLT, Nat.reduceLeDiff, Nat.reduceAdd, Nat.reduceSub, Nat.sub_self, Nat.le_refl, Nat.add_zero, Nat.zero_add, if_true, if_false, Bool.false_eq_true, reduceCtorEq, ne_eq, not_false_eq_true, List.getElem?_cons_zero, List.getElem?_cons_succ, Option.bind_some, Option.map_some, tt_24, tt_26]
  refine hK _ ?_
  clear hK K
  refine W.cond (b := decide ((1000 : Int) < ad.length)) (by simp only [ev, lk, Nat.reduceEqDiff, if_true, if_false, reduceCtorEq]) (fun h1 => ?_) (fun h1 => W.skip ?_)
  · refine W.seqK fun K hK => W.regionK tt_ok ?_
    simp only [exOps_nil, exOps_cons, exOp_eq, nx_eq, cur_eq, stepQ, ev, ofV, putT, erA, inB, opt, ret, onQ, ap, true_and, Nat.reduceEqDiff, Nat.reduceLT, Nat.reduceAdd, if_true, if_false, reduceCtorEq]
    refine hK _ ?_
    clear hK K
    refine W.ret ?_
    simp only [fin_ret, finB, resQ, resV, leL, AV.nmIn, entsIn, lk, opt, bnd, req, ret, onQ, AV.isTup, thn_ret, and_self, Nat.reduceEqDiff, if_true, if_false, reduceCtorEq]
  rw [thn_normal]
  refine hKy _ ?_
  have e1 : Int.tmod (m : Int) 20 = ((m % 20 : Nat) : Int) := by rw [Int.tmod_eq_emod_of_nonneg (by omega)]; omega
  have e2 : IntKind.i64.wrap ((m % 20 : Nat) : Int) = ((m % 20 : Nat) : Int) := by rw [IntKind.wrap_i64]; omega
  have e3 : IntKind.i64.wrap (59990 + ((m % 20 : Nat) : Int)) = ((59990 + m % 20 : Nat) : Int) := by rw [IntKind.wrap_i64]; omega
  have hkk : 59990 + m % 20 < 60010 := by have := Nat.mod_lt m (show 0 < 20 by decide); omega
  refine W.seqK fun K hK => W.regionK tt_ok ?_
  simp only [exOps_nil, exOps_cons, exOp_eq, nx_eq, cur_eq, stepQ, ev, ofV, lk, putT, erA, inB, opt, bnd, req, ret, onQ, ap, binG, binF, intF, cvQ, and_true, true_and, and_self, Nat.reduceEqDiff, Nat.reduceLT, Nat.reduceAdd, if_true, if_false, reduceCtorEq, ne_eq, tt_3, tt_5, e1, e2, e3]
  repeat (refine ⟨by omega, ?_⟩)
  refine hK _ ?_
  clear hK K
  generalize hK0 : 59990 + m % 20 = k at *
  have hrl : (List.replicate k (0 : Int)).length = k := List.length_replicate
  have hrt : List.take k (List.replicate k (0 : Int)) = List.replicate k 0 := List.take_of_length_le (by simp)
  have hz := bt_zeros k
  by_cases hbig : 60000 < k
  · have c9 := seal_big key n [] (List.replicate k 0) (.inr (by omega))
    have c9' := seal_big key n (List.replicate k 0) [] (.inl (by omega))
    have c11 := open_big key n [] (List.replicate (k + 16) 0) (by simp; omega) (.inr (by simp; omega))
    have e4 : IntKind.i64.wrap ((k : Int) + 16) = ((k + 16 : Nat) : Int) := by rw [IntKind.wrap_i64]; omega
    generalize hZ : List.replicate k (0 : Int) = Z at *
    generalize hZ' : List.replicate (k + 16) (0 : Int) = Z' at *
    have hrt' : List.take (k + 16) Z' = Z' := List.take_of_length_le (by rw [← hZ']; simp)
    have hrl' : Z'.length = k + 16 := by rw [← hZ']; simp
    rw [← hrt] at c9 c9'
    rw [← hrt'] at c11
    have ck : (60000 : Int) < k := by omega
    refine W.seqK fun K hK => W.drawK [⟨0, true, []⟩, ⟨0, true, [0]⟩, ⟨0, true, []⟩, ⟨0, true, [2]⟩, ⟨0, false, []⟩, ⟨1, false, [4]⟩, ⟨1, false, [0, 1, 2, 3, 4, 5]⟩, ⟨0, false, [0, 1, 2, 3, 4, 5, 6]⟩, ⟨0, false, [0, 1, 2, 3, 4, 5, 6, 7]⟩, ⟨0, false, [0, 1, 2, 3, 4, 5, 6, 7]⟩, ⟨0, false, [0, 1, 2, 3, 4, 5, 6, 7, 8]⟩, ⟨0, false, [0, 1, 2, 3, 4, 5, 6, 7, 8, 9, 10]⟩] mix tt_ok (by kernel_rfl) ?_
    simp only [decide_true, Bool.or_true, Bool.or_false, List.contains_cons, List.contains_nil, Nat.reduceBEq, exOp_eq, exCall_eq, exD_cons, nxD_eq, cur_eq, flI, flE, ownB, ownL, evL, stepQ, ev, ofV, lk, putT, erA, inB, opt, bnd, req, ret, onQ, ap, up, er, intsOf, ldP, ldE, ldC, ldS, Kd.agg, comps, csize, takeI, takeC, dropC, fldF, Row.len, Row.sz, Row.take, mkQ, zeroCs, cellsRow, and_true, true_and, and_self, Nat.reduceEqDiff, Nat.reduceLT, Nat.reduceLeDiff, Nat.reduceAdd, Nat.reduceSub, Nat.reduceDiv, Nat.sub_self, Int.toNat_natCast, Nat.le_refl, Nat.add_zero, Nat.zero_add, if_true, if_false, Bool.false_eq_true, reduceCtorEq, ne_eq, not_false_eq_true, List.getElem?_cons_zero, List.getElem?_cons_succ, Option.bind_some, Option.map_some, List.append_nil, tt_5, tt_22, tt_23, tt_24, tt_26, Int.toNat_natCast, hZ, hrl]
    refine ⟨by omega, ?_⟩
    rw [hrt]
    refine CallK.pure _ _ c9 call9 (by simp only [Bool.or_true, Bool.or_false, AV.nmIn, lk, opt, bnd, req, ret, onQ, AV.isTup, isTupL, Ent.row, and_true, true_and, and_self, Nat.zero_add, if_true, if_false, reduceCtorEq, forall_const, List.append_nil, vw.vwL, vw, viewR, AV.free, AV.freeL, Ent.row, Bool.or_self]; all_goals (and_intros <;> first | exact AV.subL_refl _ | omega | rfl | (simp [AV.subL_refl]; done) | (simp; exact AV.subL_refl _) | (simp [AV.subL, AV.sub]; done))) ?_
    simp only [exOp_eq, exD_nil, exD_cons, nxD_eq, cur_eq, flI, ownB, ownL, stepQ, ev, lk, putT, erA, inB, opt, ret, onQ, ap, true_and, Nat.reduceEqDiff, Nat.reduceLT, Nat.reduceAdd, if_true, if_false, reduceCtorEq, List.getElem?_cons_zero, List.getElem?_cons_succ]
    refine hK _ ?_
    clear hK K
    refine W.seqK fun K hK => W.drawK [⟨0, true, []⟩, ⟨0, true, [0]⟩, ⟨0, true, []⟩, ⟨0, true, [2]⟩, ⟨0, false, []⟩, ⟨1, false, [4]⟩, ⟨1, false, [0, 1, 2, 3, 4, 5]⟩, ⟨0, false, [0, 1, 2, 3, 4, 5, 6]⟩, ⟨0, false, [0, 1, 2, 3, 4, 5, 6, 7]⟩, ⟨0, false, [0, 1, 2, 3, 4, 5, 6, 7]⟩, ⟨0, false, [0, 1, 2, 3, 4, 5, 6, 7, 8]⟩, ⟨0, false, [0, 1, 2, 3, 4, 5, 6, 7, 8, 9, 10]⟩] mix tt_ok (by kernel_rfl) ?_
    simp only [decide_true, Bool.or_true, Bool.or_false, List.contains_cons, List.contains_nil, Nat.reduceBEq, exOp_eq, exCall_eq, exD_cons, nxD_eq, cur_eq, flI, flE, ownB, ownL, evL, stepQ, ev, ofV, lk, putT, erA, inB, opt, bnd, req, ret, onQ, ap, up, er, intsOf, ldP, ldE, ldC, ldS, Kd.agg, comps, csize, takeI, takeC, dropC, fldF, Row.len, Row.sz, Row.take, mkQ, zeroCs, cellsRow, and_true, true_and, and_self, Nat.reduceEqDiff, Nat.reduceLT, Nat.reduceLeDiff, Nat.reduceAdd, Nat.reduceSub, Nat.reduceDiv, Nat.sub_self, Int.toNat_natCast, Nat.le_refl, Nat.add_zero, Nat.zero_add, if_true, if_false, Bool.false_eq_true, reduceCtorEq, ne_eq, not_false_eq_true, List.getElem?_cons_zero, List.getElem?_cons_succ, Option.bind_some, Option.map_some, List.append_nil, tt_5, tt_22, tt_23, tt_24, tt_26, Int.toNat_natCast, hZ, hrl]
    refine ⟨by omega, ?_⟩
    rw [hrt]
    refine CallK.pure _ _ c9' call9 (by simp only [Bool.or_true, Bool.or_false, AV.nmIn, lk, opt, bnd, req, ret, onQ, AV.isTup, isTupL, Ent.row, and_true, true_and, and_self, Nat.reduceEqDiff, Nat.zero_add, if_true, if_false, reduceCtorEq, forall_const, List.append_nil, vw.vwL, vw, viewR, AV.free, AV.freeL, Ent.row, Bool.or_self]; all_goals (and_intros <;> first | exact AV.subL_refl _ | omega | rfl | (simp [AV.subL_refl]; done) | (simp; exact AV.subL_refl _) | (simp [AV.subL, AV.sub]; done))) ?_
    simp only [exOp_eq, exD_nil, exD_cons, nxD_eq, cur_eq, flI, ownB, ownL, stepQ, ev, lk, putT, erA, inB, opt, ret, onQ, ap, true_and, Nat.reduceEqDiff, Nat.reduceLT, Nat.reduceAdd, if_true, if_false, reduceCtorEq, List.getElem?_cons_zero, List.getElem?_cons_succ]
    refine hK _ ?_
    clear hK K
    refine W.seqK fun Kx hKx => ?_
    refine W.seqK fun K hK => W.regionK tt_ok ?_
    simp only [decide_true, exOps_nil, exOps_cons, exOp_eq, nx_eq, cur_eq, stepQ, ev, ofV, lk, putT, erA, inB, opt, bnd, req, ret, onQ, ap, binG, binF, intF, true_and, and_self, Nat.reduceEqDiff, Nat.reduceLT, Nat.reduceAdd, if_true, if_false, reduceCtorEq, ck]
    refine hK _ ?_
    clear hK K
    refine W.cond (b := true) (by simp only [ev, lk, Nat.reduceEqDiff, if_true, if_false, reduceCtorEq]) (fun _ => ?_) (fun h => absurd h (by simp))
    refine W.seqK fun K hK => W.drawK [⟨0, true, []⟩, ⟨0, true, [0]⟩, ⟨0, true, []⟩, ⟨0, true, [2]⟩, ⟨0, false, []⟩, ⟨0, false, [4]⟩, ⟨1, false, [4, 5]⟩, ⟨0, false, [0, 1, 2, 3, 4, 5, 6]⟩, ⟨0, false, [0, 1, 2, 3, 4, 5, 6, 7]⟩, ⟨0, false, [0, 1, 2, 3, 4, 5, 6, 7, 8]⟩, ⟨0, false, [0, 1, 2, 3, 4, 5, 6, 7, 8]⟩, ⟨0, false, [0, 1, 2, 3, 4, 5, 6, 7, 8, 9]⟩, ⟨0, false, [0, 1, 2, 3, 4, 5, 6, 7, 8, 9, 10, 11]⟩] mix tt_ok (by kernel_rfl) ?_
    simp only [decide_true, Bool.or_true, Bool.or_false, List.contains_cons, List.contains_nil, Nat.reduceBEq, exOp_eq, exCall_eq, exD_cons, nxD_eq, cur_eq, flI, flE, ownB, ownL, evL, stepQ, ev, ofV, lk, putT, erA, inB, opt, bnd, req, ret, onQ, ap, up, er, binG, binF, intF, intsOf, ldP, ldE, ldC, ldS, Kd.agg, comps, csize, takeI, takeC, dropC, fldF, Row.len, Row.sz, Row.take, mkQ, zeroCs, cellsRow, and_true, true_and, and_self, Nat.reduceEqDiff, Nat.reduceLT, Nat.reduceLeDiff, Nat.reduceAdd, Nat.reduceSub, Nat.reduceDiv, Nat.sub_self, Int.toNat_natCast, Nat.le_refl, Nat.add_zero, Nat.zero_add, if_true, if_false, Bool.false_eq_true, reduceCtorEq, ne_eq, not_false_eq_true, List.getElem?_cons_zero, List.getElem?_cons_succ, Option.bind_some, Option.map_some, List.append_nil, tt_5, tt_22, tt_23, tt_24, tt_26, Int.toNat_natCast, e4, hZ', hrl']
    refine ⟨by omega, ?_⟩
    rw [hrt']
    refine CallK.pure _ _ c11 call11 (by simp only [Bool.or_true, Bool.or_false, AV.nmIn, lk, opt, bnd, req, ret, onQ, AV.isTup, isTupL, Ent.row, and_true, true_and, and_self, Nat.reduceEqDiff, Nat.zero_add, if_true, if_false, reduceCtorEq, forall_const, List.append_nil, vw.vwL, vw, viewR, AV.free, AV.freeL, Ent.row, Bool.or_self]; all_goals (and_intros <;> first | exact AV.subL_refl _ | omega | rfl | (simp [AV.subL_refl]; done) | (simp; exact AV.subL_refl _) | (simp [AV.subL, AV.sub]; done))) ?_
    simp only [exOp_eq, exD_nil, exD_cons, nxD_eq, cur_eq, flI, ownB, stepQ, ev, lk, putT, erA, inB, opt, ret, onQ, ap, true_and, Nat.reduceEqDiff, Nat.reduceLT, Nat.reduceAdd, if_true, if_false, reduceCtorEq, List.getElem?_cons_zero, List.getElem?_cons_succ]
    refine hK _ ?_
    clear hK K
    refine W.seqK fun K hK => W.regionK tt_ok ?_
    simp only [Int.reduceBEq, ↓gTT, ↓nTT, exOps_nil, exOps_cons, exOp_eq, nx_eq, cur_eq, stepQ, ev, ofV, lk, putT, erA, inB, opt, bnd, req, ret, onQ, ap, binG, binF, intF, pickF, and_true, true_and, and_self, Nat.reduceEqDiff, Nat.reduceLT, Nat.reduceAdd, if_true, if_false, reduceCtorEq, List.getElem?_cons_zero, List.getElem?_cons_succ, Option.bind_some]
    refine hK _ ?_
    clear hK K
    refine W.ret ?_
    simp only [fin_ret, finB, resQ, resV, leL, AV.nmIn, entsIn, lk, opt, bnd, req, ret, onQ, AV.isTup, thn_ret, and_self, Nat.reduceEqDiff, if_true, if_false, reduceCtorEq]
  · have ck : ¬ (60000 : Int) < k := by omega
    have c9 := seal_at 304 key n [] (List.replicate k 0) hk (by simp) (by omega)
    have c9' := seal_at 496 key n (List.replicate k 0) [] hk (by omega) (by simp)
    have c11 := open_seal_at 704 key n [] (List.replicate k 0) hk (by simp) (by omega) hz
    have hX : (sealN key n [] (List.replicate k 0)).length = k + 16 := by rw [sealN_len, hrl]
    generalize sealN key n [] (List.replicate k 0) = X at *
    generalize sealN key n (List.replicate k 0) [] = Y at *
    generalize hZ : List.replicate k (0 : Int) = Z at *
    have hXt : List.take (k + 16) X = X := List.take_of_length_le (by omega)
    rw [hrl] at c9 c11
    rw [← hXt] at c11
    rw [← hrt] at c9 c9'
    have hkk' : ((k : Int) == (k : Int)) = true := beq_self_eq_true _
    refine W.seqK fun K hK => W.drawK [⟨0, true, []⟩, ⟨0, true, [0]⟩, ⟨0, true, []⟩, ⟨0, true, [2]⟩, ⟨0, false, []⟩, ⟨1, false, [4]⟩, ⟨1, false, [0, 1, 2, 3, 4, 5]⟩, ⟨0, false, [0, 1, 2, 3, 4, 5, 6]⟩, ⟨0, false, [0, 1, 2, 3, 4, 5, 6, 7]⟩, ⟨0, false, [0, 1, 2, 3, 4, 5, 6, 7]⟩, ⟨0, false, [0, 1, 2, 3, 4, 5, 6, 7, 8]⟩, ⟨0, false, [0, 1, 2, 3, 4, 5, 6, 7, 8, 9, 10]⟩] mix tt_ok (by kernel_rfl) ?_
    simp only [decide_true, Bool.or_true, Bool.or_false, List.contains_cons, List.contains_nil, Nat.reduceBEq, exOp_eq, exCall_eq, exD_cons, nxD_eq, cur_eq, flI, flE, ownB, ownL, evL, stepQ, ev, ofV, lk, putT, erA, inB, opt, bnd, req, ret, onQ, ap, up, er, intsOf, ldP, ldE, ldC, ldS, Kd.agg, comps, csize, takeI, takeC, dropC, fldF, Row.len, Row.sz, Row.take, mkQ, zeroCs, cellsRow, and_true, true_and, and_self, Nat.reduceEqDiff, Nat.reduceLT, Nat.reduceLeDiff, Nat.reduceAdd, Nat.reduceSub, Nat.reduceDiv, Nat.sub_self, Int.toNat_natCast, Nat.le_refl, Nat.add_zero, Nat.zero_add, if_true, if_false, Bool.false_eq_true, reduceCtorEq, ne_eq, not_false_eq_true, List.getElem?_cons_zero, List.getElem?_cons_succ, Option.bind_some, Option.map_some, List.append_nil, tt_5, tt_22, tt_23, tt_24, tt_26, Int.toNat_natCast, hZ, hrl]
    refine ⟨by omega, ?_⟩
    rw [hrt]
    refine CallK.with [] [(304, .vec 5 (.ints .u8 X))] _ _ c9 call9 (by simp only [Bool.or_true, Bool.or_false, AV.nmIn, lk, opt, bnd, req, ret, onQ, AV.isTup, isTupL, Ent.row, and_true, true_and, and_self, Nat.zero_add, if_true, if_false, reduceCtorEq, forall_const, List.append_nil, vw.vwL, vw, viewR, AV.free, AV.freeL, Ent.row, Bool.or_self]; all_goals (and_intros <;> first | exact AV.subL_refl _ | omega | rfl | (simp [AV.subL_refl]; done) | (simp [AV.subL, AV.sub, entsFree]; done))) (by simp [leL]) (by intro n hn; first | (left; revert hn; simp [Nm, lk]; done) | (right; revert hn; simp only [Nm, lk]; split <;> simp <;> omega)) (by simp [entsIn]) ?_
    simp only [callDel, exOp_eq, exD_nil, exD_cons, nxD_eq, cur_eq, flI, ownB, ownL, stepQ, ev, lk, putT, erA, inB, opt, ret, onQ, ap, up, er, true_and, and_self, Nat.reduceEqDiff, Nat.reduceLT, Nat.reduceAdd, Nat.le_refl, if_true, if_false, reduceCtorEq, List.getElem?_cons_zero, List.getElem?_cons_succ, List.nil_append, List.map_cons, List.map_nil, List.reverse_cons, List.reverse_nil]
    repeat (refine ⟨by omega, ?_⟩)
    refine hK _ ?_
    clear hK K
    refine W.seqK fun K hK => W.drawK [⟨0, true, []⟩, ⟨0, true, [0]⟩, ⟨0, true, []⟩, ⟨0, true, [2]⟩, ⟨0, false, []⟩, ⟨1, false, [4]⟩, ⟨1, false, [0, 1, 2, 3, 4, 5]⟩, ⟨0, false, [0, 1, 2, 3, 4, 5, 6]⟩, ⟨0, false, [0, 1, 2, 3, 4, 5, 6, 7]⟩, ⟨0, false, [0, 1, 2, 3, 4, 5, 6, 7]⟩, ⟨0, false, [0, 1, 2, 3, 4, 5, 6, 7, 8]⟩, ⟨0, false, [0, 1, 2, 3, 4, 5, 6, 7, 8, 9, 10]⟩] mix tt_ok (by kernel_rfl) ?_
    simp only [decide_true, Bool.or_true, Bool.or_false, List.contains_cons, List.contains_nil, Nat.reduceBEq, exOp_eq, exCall_eq, exD_cons, nxD_eq, cur_eq, flI, flE, ownB, ownL, evL, stepQ, ev, ofV, lk, putT, erA, inB, opt, bnd, req, ret, onQ, ap, up, er, intsOf, ldP, ldE, ldC, ldS, Kd.agg, comps, csize, takeI, takeC, dropC, fldF, Row.len, Row.sz, Row.take, mkQ, zeroCs, cellsRow, and_true, true_and, and_self, Nat.reduceEqDiff, Nat.reduceLT, Nat.reduceLeDiff, Nat.reduceAdd, Nat.reduceSub, Nat.reduceDiv, Nat.sub_self, Int.toNat_natCast, Nat.le_refl, Nat.add_zero, Nat.zero_add, if_true, if_false, Bool.false_eq_true, reduceCtorEq, ne_eq, not_false_eq_true, List.getElem?_cons_zero, List.getElem?_cons_succ, Option.bind_some, Option.map_some, List.append_nil, tt_5, tt_22, tt_23, tt_24, tt_26, Int.toNat_natCast, hZ, hrl]
    refine ⟨by omega, ?_⟩
    rw [hrt]
    refine CallK.with [] [(496, .vec 5 (.ints .u8 Y))] _ _ c9' call9 (by simp only [Bool.or_true, Bool.or_false, AV.nmIn, lk, opt, bnd, req, ret, onQ, AV.isTup, isTupL, Ent.row, and_true, true_and, and_self, Nat.reduceEqDiff, Nat.zero_add, if_true, if_false, reduceCtorEq, forall_const, List.append_nil, vw.vwL, vw, viewR, AV.free, AV.freeL, Ent.row, Bool.or_self]; all_goals (and_intros <;> first | exact AV.subL_refl _ | omega | rfl | (simp [AV.subL_refl]; done) | (simp [AV.subL, AV.sub, entsFree]; done))) (by simp [leL]) (by intro n hn; first | (left; revert hn; simp [Nm, lk]; done) | (right; revert hn; simp only [Nm, lk]; split <;> simp <;> omega)) (by simp [entsIn]) ?_
    simp only [callDel, exOp_eq, exD_nil, exD_cons, nxD_eq, cur_eq, flI, ownB, ownL, stepQ, ev, lk, putT, erA, inB, opt, ret, onQ, ap, up, er, true_and, and_self, Nat.reduceEqDiff, Nat.reduceLT, Nat.reduceAdd, Nat.le_refl, Nat.zero_add, if_true, if_false, reduceCtorEq, List.getElem?_cons_zero, List.getElem?_cons_succ, List.nil_append, List.map_cons, List.map_nil, List.reverse_cons, List.reverse_nil, List.length_nil]
    repeat (refine ⟨by omega, ?_⟩)
    refine hK _ ?_
    clear hK K
    refine W.seqK fun Kx hKx => ?_
    refine W.seqK fun K hK => W.regionK tt_ok ?_
    simp only [decide_false, exOps_nil, exOps_cons, exOp_eq, nx_eq, cur_eq, stepQ, ev, ofV, lk, putT, erA, inB, opt, bnd, req, ret, onQ, ap, binG, binF, intF, true_and, and_self, Nat.reduceEqDiff, Nat.reduceLT, Nat.reduceAdd, if_true, if_false, reduceCtorEq, ck]
    refine hK _ ?_
    clear hK K
    refine W.cond (b := false) (by simp only [ev, lk, Nat.reduceEqDiff, if_true, if_false, reduceCtorEq]) (fun h => absurd h (by simp)) (fun _ => W.skip ?_)
    rw [thn_normal]
    refine hKx _ ?_
    refine W.seqK fun K hK => W.regionK tt_ok ?_
    simp only [exOps_cons, exOp_eq, exCall_eq, nx_eq, cur_eq, evL, stepQ, ev, ofV, lk, putT, erA, inB, opt, bnd, req, ret, onQ, ap, ldP, ldE, ldC, ldS, Kd.agg, comps, csize, takeI, takeC, dropC, fldF, and_true, true_and, and_self, Nat.reduceEqDiff, Nat.reduceLT, Nat.reduceLeDiff, Nat.reduceAdd, Nat.reduceSub, Nat.sub_self, Nat.le_refl, Nat.add_zero, Nat.zero_add, if_true, if_false, Bool.false_eq_true, reduceCtorEq, ne_eq, not_false_eq_true, List.getElem?_cons_zero, List.getElem?_cons_succ, Option.bind_some, Option.map_some, tt_22, tt_23, tt_26]
    refine CallK.with [] [(704, .vec 5 (.ints .u8 Z))] _ _ c11 call11 (by simp only [Bool.or_true, Bool.or_false, AV.nmIn, lk, opt, bnd, req, ret, onQ, AV.isTup, isTupL, Ent.row, and_true, true_and, and_self, Nat.reduceEqDiff, Nat.zero_add, if_true, if_false, reduceCtorEq, forall_const, List.append_nil, vw.vwL, vw, viewR, AV.free, AV.freeL, Ent.row, Bool.or_self]; all_goals (and_intros <;> first | exact AV.subL_refl _ | omega | rfl | (simp [AV.subL_refl]; done) | (simp [AV.subL, AV.sub, entsFree]; done))) (by simp [leL]) (by intro n hn; first | (left; revert hn; simp [Nm, lk]; done) | (right; revert hn; simp only [Nm, lk]; split <;> simp <;> omega)) (by simp [entsIn]) ?_
    simp only [callDel, exOps_nil, exOps_cons, exOp_eq, nx_eq, cur_eq, stepQ, ev, lk, putT, erA, inB, opt, ret, onQ, ap, up, er, true_and, Nat.reduceEqDiff, Nat.reduceLT, Nat.reduceAdd, if_true, if_false, reduceCtorEq, List.getElem?_cons_zero, List.getElem?_cons_succ, List.nil_append, List.map_cons, List.map_nil, List.reverse_cons, List.reverse_nil]
    refine hK _ ?_
    clear hK K
    refine W.seqK fun K hK => W.regionK tt_ok ?_
    simp only [Int.reduceBEq, ↓gTT, ↓nTT, exOps_nil, exOps_cons, exOp_eq, exCall_eq, nx_eq, cur_eq, evL, stepQ, ev, ofV, lk, putT, erA, inB, opt, bnd, req, ret, onQ, ap, binG, binF, intF, pickF, bltQ, bltV, lenF, and_true, true_and, and_self, or_false, Nat.reduceEqDiff, Nat.reduceLT, Nat.reduceAdd, if_true, if_false, reduceCtorEq, List.getElem?_cons_zero, List.getElem?_cons_succ, Option.bind_some, Option.map_some, tt_24, hkk']
    refine hK _ ?_
    clear hK K
    refine W.ret ?_
    simp only [fin_ret, finB, resQ, resV, leL, AV.nmIn, entsIn, lk, opt, bnd, req, ret, onQ, AV.isTup, and_self, Nat.reduceEqDiff, if_true, if_false, reduceCtorEq]
end Go.Proofs.YtakgcmponelbeaaDoor
