/- Open. -/
import Derived.Test.YtakgcmponelbeaaDoorAeF
import Derived.Test.YtakgcmponelbeaaDoorAgC
-- TT 3 4 5 22 23 24 28 36 43 45
-- TOUCH 13 1
set_option linter.unusedVariables false
set_option linter.unusedSimpArgs false
namespace Go.Proofs.YtakgcmponelbeaaDoor
open Sx
open Sm (xorO xorO_len)
open Tg (xorA equal_fn)
set_option maxRecDepth 100000

theorem at_eq (m : Nat) (h : m < 1000000000000) : IntKind.i64.wrap ((m : Int) - 16) = (m : Int) - 16 := by rw [IntKind.wrap_i64]; omega
theorem open_big (key : List Int) (n : Int) (ad box : List Int) (hm : box.length < 1000000000000) (hb : 60000 < ad.length ∨ 60000 + 16 < box.length) :
    FnR Tryd.prog G 11 [.agg [.ints .u8 32 key], .int .u64 n, .lstI .u8 ad, .lstI .u8 box] [] (.tup [.nils, .int .i64 3]) [] := by
  have hat := at_eq box.length hm
  refine FnR.of_walk (m := 51) (n0 := 0) tt_ok Tryd.func11 rfl rfl (by simp) (by simp [nmH]) ?_
  rw [show Tryd.f11.results.toList = [.tmp 8, .tmp 9] from rfl]
  refine W.seqK fun K hK => W.regionK tt_ok ?_
  simp only [exOps_nil, exOps_cons, exOp_eq, nx_eq, cur_eq, stepQ, ev, ofV, lk, parT, putT, erA, inB, opt, req, ret, onQ, ap, up, er, AV.isTup, true_and, and_self, Nat.reduceEqDiff, Nat.reduceLT, Nat.reduceAdd, Nat.zero_add, if_true, if_false, reduceCtorEq]
  refine hK _ ?_
  clear hK K
  refine W.seqK fun K hK => W.regionK tt_ok ?_
  simp only [exOps_nil, exOps_cons, exOp_eq, exCall_eq, nx_eq, cur_eq, evL, stepQ, ev, ofV, lk, putT, erA, inB, opt, bnd, req, ret, onQ, ap, binG, binF, intF, bltQ, bltV, lenF, true_and, and_self, or_false, Nat.reduceEqDiff, Nat.reduceLT, Nat.reduceAdd, if_true, if_false, reduceCtorEq, List.getElem?_cons_zero, Option.bind_some, Option.map_some, tt_24, hat]
  refine hK _ ?_
  clear hK K
  refine W.seqK fun Kz hKz => W.blockK ?_
  by_cases h1 : (60000 : Int) < ad.length
  · refine W.seqK fun K hK => W.regionK tt_ok ?_
    simp only [↓gTF, ↓nTF, decide_true, exOps_nil, exOps_cons, exOp_eq, exCall_eq, nx_eq, cur_eq, evL, stepQ, ev, ofV, lk, putT, erA, inB, opt, bnd, req, ret, onQ, ap, binG, binF, intF, pickF, bltQ, bltV, lenF, true_and, and_self, or_false, Nat.reduceEqDiff, Nat.reduceLT, Nat.reduceAdd, if_true, if_false, reduceCtorEq, List.getElem?_cons_zero, List.getElem?_cons_succ, Option.bind_some, Option.map_some, tt_24, h1]
    refine hK _ ?_
    clear hK K
    refine W.cond (b := true) (by simp only [ev, lk, Nat.reduceEqDiff, if_true, if_false, reduceCtorEq]) (fun _ => ?_) (fun h => absurd h (by simp))
    refine W.seqK fun K hK => W.regionK tt_ok ?_
    simp only [exOps_nil, exOps_cons, exOp_eq, nx_eq, cur_eq, stepQ, ev, ofV, putT, erA, inB, opt, ret, onQ, ap, true_and, Nat.reduceEqDiff, Nat.reduceLT, Nat.reduceAdd, if_true, if_false, reduceCtorEq]
    refine hK _ ?_
    clear hK K
    refine W.ret ?_
    simp only [fin_ret, finB, resQ, resV, leL, AV.nmIn, AV.nmInL, entsIn, lk, opt, bnd, req, ret, onQ, AV.isTup, thn_ret, inb_ret, and_self, Nat.reduceEqDiff, if_true, if_false, reduceCtorEq]
  · have h2 : (60000 : Int) < (box.length : Int) - 16 := by omega
    refine W.seqK fun K hK => W.regionK tt_ok ?_
    simp only [↓gFF, ↓nFF, decide_true, decide_false, exOps_nil, exOps_cons, exOp_eq, exCall_eq, nx_eq, cur_eq, evL, stepQ, ev, ofV, lk, putT, erA, inB, opt, bnd, req, ret, onQ, ap, binG, binF, intF, pickF, bltQ, bltV, lenF, and_true, true_and, and_self, or_false, Nat.reduceEqDiff, Nat.reduceLT, Nat.reduceAdd, if_true, if_false, reduceCtorEq, List.getElem?_cons_zero, List.getElem?_cons_succ, Option.bind_some, Option.map_some, tt_24, h1, h2]
    refine hK _ ?_
    clear hK K
    refine W.cond (b := true) (by simp only [ev, lk, Nat.reduceEqDiff, if_true, if_false, reduceCtorEq]) (fun _ => ?_) (fun h => absurd h (by simp))
    refine W.seqK fun K hK => W.regionK tt_ok ?_
    simp only [exOps_nil, exOps_cons, exOp_eq, nx_eq, cur_eq, stepQ, ev, ofV, putT, erA, inB, opt, ret, onQ, ap, true_and, Nat.reduceEqDiff, Nat.reduceLT, Nat.reduceAdd, if_true, if_false, reduceCtorEq]
    refine hK _ ?_
    clear hK K
    refine W.ret ?_
    simp only [fin_ret, finB, resQ, resV, leL, AV.nmIn, AV.nmInL, entsIn, lk, opt, bnd, req, ret, onQ, AV.isTup, thn_ret, inb_ret, and_self, Nat.reduceEqDiff, if_true, if_false, reduceCtorEq]
theorem open_form (key : List Int) (n : Int) (ad box : List Int) (ha : ad.length ≤ 60000) (hb : box.length < 16) :
    FnR Tryd.prog G 11 [.agg [.ints .u8 32 key], .int .u64 n, .lstI .u8 ad, .lstI .u8 box] [] (.tup [.nils, .int .i64 4]) [] := by
  have hat := at_eq box.length (by omega)
  have h1 : ¬ (60000 : Int) < ad.length := by omega
  have h2 : ¬ (60000 : Int) < (box.length : Int) - 16 := by omega
  have h3 : (box.length : Int) - 16 < 0 := by omega
  refine FnR.of_walk (m := 51) (n0 := 0) tt_ok Tryd.func11 rfl rfl (by simp) (by simp [nmH]) ?_
  rw [show Tryd.f11.results.toList = [.tmp 8, .tmp 9] from rfl]
  refine W.seqK fun K hK => W.regionK tt_ok ?_
  simp only [exOps_nil, exOps_cons, exOp_eq, nx_eq, cur_eq, stepQ, ev, ofV, lk, parT, putT, erA, inB, opt, req, ret, onQ, ap, up, er, AV.isTup, true_and, and_self, Nat.reduceEqDiff, Nat.reduceLT, Nat.reduceAdd, Nat.zero_add, if_true, if_false, reduceCtorEq]
  refine hK _ ?_
  clear hK K
  refine W.seqK fun K hK => W.regionK tt_ok ?_
  simp only [exOps_nil, exOps_cons, exOp_eq, exCall_eq, nx_eq, cur_eq, evL, stepQ, ev, ofV, lk, putT, erA, inB, opt, bnd, req, ret, onQ, ap, binG, binF, intF, bltQ, bltV, lenF, true_and, and_self, or_false, Nat.reduceEqDiff, Nat.reduceLT, Nat.reduceAdd, if_true, if_false, reduceCtorEq, List.getElem?_cons_zero, Option.bind_some, Option.map_some, tt_24, hat]
  refine hK _ ?_
  clear hK K
  refine W.seqK fun Kz hKz => W.blockK ?_
  refine W.seqK fun K hK => W.regionK tt_ok ?_
  simp only [↓gFF, ↓nFF, decide_false, exOps_nil, exOps_cons, exOp_eq, exCall_eq, nx_eq, cur_eq, evL, stepQ, ev, ofV, lk, putT, erA, inB, opt, bnd, req, ret, onQ, ap, binG, binF, intF, pickF, bltQ, bltV, lenF, and_true, true_and, and_self, or_false, Nat.reduceEqDiff, Nat.reduceLT, Nat.reduceAdd, if_true, if_false, reduceCtorEq, List.getElem?_cons_zero, List.getElem?_cons_succ, Option.bind_some, Option.map_some, tt_24, h1, h2]
  refine hK _ ?_
  clear hK K
  refine W.cond (b := false) (by simp only [ev, lk, Nat.reduceEqDiff, if_true, if_false, reduceCtorEq]) (fun h => absurd h (by simp)) (fun _ => ?_)
  refine W.seqK fun K hK => W.regionK tt_ok ?_
  simp only [decide_true, exOps_nil, exOps_cons, exOp_eq, nx_eq, cur_eq, stepQ, ev, ofV, lk, putT, erA, inB, opt, bnd, req, ret, onQ, ap, binG, binF, intF, true_and, and_self, Nat.reduceEqDiff, Nat.reduceLT, Nat.reduceAdd, if_true, if_false, reduceCtorEq, h3]
  refine hK _ ?_
  clear hK K
  refine W.cond (b := true) (by simp only [ev, lk, Nat.reduceEqDiff, if_true, if_false, reduceCtorEq]) (fun _ => ?_) (fun h => absurd h (by simp))
  refine W.seqK fun K hK => W.regionK tt_ok ?_
  simp only [exOps_nil, exOps_cons, exOp_eq, nx_eq, cur_eq, stepQ, ev, ofV, putT, erA, inB, opt, ret, onQ, ap, true_and, Nat.reduceEqDiff, Nat.reduceLT, Nat.reduceAdd, if_true, if_false, reduceCtorEq]
  refine hK _ ?_
  clear hK K
  refine W.ret ?_
  simp only [fin_ret, finB, resQ, resV, leL, AV.nmIn, AV.nmInL, entsIn, lk, opt, bnd, req, ret, onQ, AV.isTup, thn_ret, inb_ret, and_self, Nat.reduceEqDiff, if_true, if_false, reduceCtorEq]
theorem open_own (key : List Int) (n : Int) (ad box : List Int) (hk : key.length = 32) (ha : ad.length ≤ 60000) (hb : 16 ≤ box.length) (hm : box.length ≤ 60000 + 16)
    (heq : (decide ((tagN key (nonN n) ad (box.take (box.length - 16))).length = (box.drop (box.length - 16)).length) && (xorA (tagN key (nonN n) ad (box.take (box.length - 16))) (box.drop (box.length - 16)) (tagN key (nonN n) ad (box.take (box.length - 16))).length == 0)) = true) :
    FnR Tryd.prog G 11 [.agg [.ints .u8 32 key], .int .u64 n, .lstI .u8 ad, .lstI .u8 box] [] (.tup [.sl 688 1 0 (box.length - 16), .int .i64 0]) [(688, .vec 5 (.ints .u8 (xorO key (nonN n) 1 (box.take (box.length - 16)) (box.take (box.length - 16)).length)))] := by
  have h1 : ¬ (60000 : Int) < ad.length := by omega
  have h2 : ¬ (60000 : Int) < ((box.length - 16 : Nat) : Int) := by omega
  have h3 : ¬ ((box.length - 16 : Nat) : Int) < 0 := by omega
  have hat : IntKind.i64.wrap ((box.length : Int) - 16) = ((box.length - 16 : Nat) : Int) := by rw [at_eq _ (by omega)]; omega
  have hnl := nonN_len n
  have c14 := locked_fn key n hk
  have hCl : (box.take (box.length - 16)).length = box.length - 16 := by rw [List.length_take]; omega
  have hDl : ((box.take box.length).drop (box.length - 16)).length = 16 := by rw [List.take_length, List.length_drop]; omega
  have hD' : (box.take box.length).drop (box.length - 16) = box.drop (box.length - 16) := by rw [List.take_length]
  have hTl := tagN_len key (nonN n) ad (box.take (box.length - 16))
  have c15 := sumL_fn key (nonN n) ad (box.take (box.length - 16)) hk hnl (by omega) (by omega)
  have c19 := equal_fn (tagN key (nonN n) ad (box.take (box.length - 16))) (box.drop (box.length - 16)) (by omega)
  have c13 := Sm.xor_at 688 key (nonN n) 1 (box.take (box.length - 16)) hk hnl (by omega) (by omega) (by omega)
  generalize hN : nonN n = N at *
  generalize hTT : tagN key N ad (box.take (box.length - 16)) = T at *
  generalize hFF : xorO key N 1 (box.take (box.length - 16)) (box.take (box.length - 16)).length = F at *
  rw [heq] at c19
  generalize hCC : box.take (box.length - 16) = C at *
  generalize hDD : box.drop (box.length - 16) = D at *
  have hT16 : List.take 16 (List.drop 0 T) = T := by rw [List.drop_zero, List.take_of_length_le (by omega)]
  refine FnR.of_walk (m := 51) (n0 := 0) tt_ok Tryd.func11 rfl rfl (by simp) (by simp [nmH]) ?_
  rw [show Tryd.f11.results.toList = [.tmp 8, .tmp 9] from rfl]
  refine W.seqK fun K hK => W.regionK tt_ok ?_
  simp only [exOps_nil, exOps_cons, exOp_eq, nx_eq, cur_eq, stepQ, ev, ofV, lk, parT, putT, erA, inB, opt, req, ret, onQ, ap, up, er, AV.isTup, true_and, and_self, Nat.reduceEqDiff, Nat.reduceLT, Nat.reduceAdd, Nat.zero_add, if_true, if_false, reduceCtorEq]
  refine hK _ ?_
  clear hK K
  refine W.seqK fun K hK => W.regionK tt_ok ?_
  simp only [exOps_nil, exOps_cons, exOp_eq, exCall_eq, nx_eq, cur_eq, evL, stepQ, ev, ofV, lk, putT, erA, inB, opt, bnd, req, ret, onQ, ap, binG, binF, intF, bltQ, bltV, lenF, true_and, and_self, or_false, Nat.reduceEqDiff, Nat.reduceLT, Nat.reduceAdd, if_true, if_false, reduceCtorEq, List.getElem?_cons_zero, Option.bind_some, Option.map_some, tt_24, hat]
  refine hK _ ?_
  clear hK K
  refine W.seqK fun Kz hKz => W.blockK ?_
  refine W.seqK fun K hK => W.regionK tt_ok ?_
  simp only [↓gFF, ↓nFF, decide_false, exOps_nil, exOps_cons, exOp_eq, exCall_eq, nx_eq, cur_eq, evL, stepQ, ev, ofV, lk, putT, erA, inB, opt, bnd, req, ret, onQ, ap, binG, binF, intF, pickF, bltQ, bltV, lenF, and_true, true_and, and_self, or_false, Nat.reduceEqDiff, Nat.reduceLT, Nat.reduceAdd, if_true, if_false, reduceCtorEq, List.getElem?_cons_zero, List.getElem?_cons_succ, Option.bind_some, Option.map_some, tt_24, h1, h2]
  refine hK _ ?_
  clear hK K
  refine W.cond (b := false) (by simp only [ev, lk, Nat.reduceEqDiff, if_true, if_false, reduceCtorEq]) (fun h => absurd h (by simp)) (fun _ => ?_)
  refine W.seqK fun K hK => W.regionK tt_ok ?_
  simp only [decide_false, exOps_nil, exOps_cons, exOp_eq, nx_eq, cur_eq, stepQ, ev, ofV, lk, putT, erA, inB, opt, bnd, req, ret, onQ, ap, binG, binF, intF, true_and, and_self, Nat.reduceEqDiff, Nat.reduceLT, Nat.reduceAdd, if_true, if_false, reduceCtorEq, h3]
  refine hK _ ?_
  clear hK K
  refine W.cond (b := false) (by simp only [ev, lk, Nat.reduceEqDiff, if_true, if_false, reduceCtorEq]) (fun h => absurd h (by simp)) (fun _ => W.skip ?_)
  simp only [thn_normal, inb_normal]
  refine hKz _ ?_
  refine W.seqK fun K hK => W.regionK tt_ok ?_
  simp only [exOps_cons, exOp_eq, exCall_eq, nx_eq, cur_eq, evL, stepQ, ev, lk, putT, erA, inB, opt, bnd, req, ret, onQ, ap, ldP, ldE, ldC, ldS, Kd.agg, comps, csize, takeI, takeC, dropC, true_and, and_self, Nat.reduceEqDiff, Nat.reduceLT, Nat.reduceLeDiff, Nat.reduceAdd, Nat.reduceSub, Nat.sub_self, Nat.le_refl, Nat.add_zero, if_true, if_false, reduceCtorEq, Option.bind_some, Option.map_some, tt_22]
  refine CallK.pure _ _ c14 call14 (by simp only [AV.nmIn, bnd, req, ret, onQ, AV.isTup, isTupL, true_and, and_self, Bool.false_eq_true, List.append_nil, vw.vwL, vw, AV.free, AV.freeL, Bool.or_self]; all_goals (and_intros <;> first | exact AV.subL_refl _ | omega | rfl | (simp []; done) | (simp; exact AV.subL_refl _) | (simp [AV.subL, AV.sub]; done))) ?_
  simp only [exOps_nil, exOps_cons, exOp_eq, nx_eq, cur_eq, stepQ, ev, lk, putT, erA, inB, opt, bnd, req, ret, onQ, ap, up, er, AV.isAgg, Kd.agg, comps, szL, csize, takeI, takeC, dropC, stP, stE, stC, stS, true_and, and_self, Nat.reduceEqDiff, Nat.reduceLT, Nat.reduceLeDiff, Nat.reduceAdd, Nat.reduceSub, Nat.sub_self, Nat.le_refl, Nat.add_zero, Nat.zero_add, if_true, if_false, reduceCtorEq, Option.bind_some, Option.map_some, List.append_nil, List.nil_append, tt_43]
  refine hK _ ?_
  clear hK K
  refine W.seqK fun Kw hKw => ?_
  refine W.seqK fun K hK => W.drawK [⟨0, true, []⟩, ⟨0, false, []⟩, ⟨0, false, []⟩, ⟨0, false, []⟩, ⟨0, true, [2, 3]⟩, ⟨0, true, [0, 1, 2, 3, 4]⟩, ⟨1, false, []⟩, ⟨2, false, [0, 1, 2, 3, 4, 5, 6]⟩] mix tt_ok (by kernel_rfl) ?_
  simp only [decide_true, Bool.or_true, Bool.or_false, List.contains_cons, List.contains_nil, Nat.reduceBEq, exOp_eq, exCall_eq, exD_cons, nxD_eq, cur_eq, flI, flE, ownB, evL, stepQ, ev, lk, putT, erA, inB, opt, bnd, req, ret, onQ, ap, ldP, ldE, ldC, ldS, Kd.agg, comps, csize, takeI, takeC, dropC, slF, bd, bds, and_true, true_and, and_self, Nat.reduceEqDiff, Nat.reduceLT, Nat.reduceLeDiff, Nat.reduceAdd, Nat.reduceSub, Nat.reduceDiv, Nat.sub_self, Int.toNat_natCast, Nat.le_refl, Nat.add_zero, if_true, if_false, reduceCtorEq, Option.bind_some, Option.map_some, tt_5, tt_24, tt_43, List.drop_zero, hCC, Int.toNat_natCast]
  refine ⟨⟨by omega, by omega⟩, ?_⟩
  refine CallK.pure _ _ c15 call15 (by simp only [AV.nmIn, bnd, req, ret, onQ, AV.isTup, isTupL, true_and, and_self, Bool.false_eq_true, List.append_nil, vw.vwL, vw, AV.free, AV.freeL, Bool.or_self]; all_goals (and_intros <;> first | exact AV.subL_refl _ | omega | rfl | (simp []; done) | (simp; exact AV.subL_refl _) | (simp [AV.subL, AV.sub]; done))) ?_
  simp only [exOp_eq, exD_nil, exD_cons, nxD_eq, cur_eq, flI, ownB, ownL, stepQ, ev, lk, putT, erA, inB, opt, bnd, req, ret, onQ, ap, up, er, AV.isAgg, Kd.agg, comps, szL, csize, takeI, takeC, dropC, stP, stE, stC, stS, true_and, and_self, Nat.reduceEqDiff, Nat.reduceLT, Nat.reduceLeDiff, Nat.reduceAdd, Nat.reduceSub, Nat.sub_self, Nat.le_refl, Nat.add_zero, Nat.zero_add, if_true, if_false, reduceCtorEq, Option.bind_some, Option.map_some, List.append_nil, List.nil_append, tt_45]
  refine hK _ ?_
  clear hK K
  have hT16' : List.take 16 T = T := List.take_of_length_le (by omega)
  rw [← hT16'] at c19
  refine W.seqK fun K hK => W.drawK [⟨0, false, []⟩, ⟨0, false, []⟩, ⟨0, false, []⟩, ⟨0, false, [1, 2]⟩, ⟨0, false, [0, 1, 2, 3]⟩, ⟨0, false, [0, 1, 2, 3, 4]⟩] mix tt_ok (by kernel_rfl) ?_
  simp only [exOp_eq, exCall_eq, exD_cons, nxD_eq, cur_eq, flI, ownB, evL, stepQ, ev, lk, putT, erA, inB, opt, bnd, req, ret, onQ, ap, comps, szL, csize, slF, bd, bds, and_true, true_and, and_self, Nat.reduceEqDiff, Nat.reduceLT, Nat.reduceLeDiff, Nat.reduceAdd, Nat.reduceSub, Nat.reduceMul, Int.toNat_natCast, Nat.add_zero, if_true, if_false, reduceCtorEq, Option.bind_some, Option.map_some, tt_5, tt_24, tt_45, hD', Int.toNat_natCast]
  refine ⟨⟨by omega, by omega⟩, ?_⟩
  refine CallK.pure _ _ c19 call19 (by simp only [Bool.or_false, AV.nmIn, lk, opt, bnd, req, ret, onQ, AV.isTup, isTupL, Ent.row, and_true, true_and, and_self, Nat.reduceEqDiff, Nat.zero_add, if_true, if_false, reduceCtorEq, forall_const, List.append_nil, vw.vwL, vw, viewR, AV.free, Ent.row, Bool.or_self]; all_goals (and_intros <;> first | exact AV.subL_refl _ | omega | rfl | (simp [AV.subL_refl]; done) | (simp; exact AV.subL_refl _) | (simp [AV.subL, AV.sub]; done))) ?_
  simp only [Bool.not_true, exOp_eq, exD_nil, exD_cons, nxD_eq, cur_eq, flI, ownB, stepQ, ev, lk, putT, erA, inB, opt, bnd, req, ret, onQ, ap, unF, true_and, and_self, Nat.reduceEqDiff, Nat.reduceLT, Nat.reduceAdd, if_true, if_false, reduceCtorEq]
  refine hK _ ?_
  clear hK K
  refine W.cond (b := false) (by simp only [ev, lk, Nat.reduceEqDiff, if_true, if_false, reduceCtorEq]) (fun h => absurd h (by simp)) (fun _ => W.skip ?_)
  rw [thn_normal]
  refine hKw _ ?_
  refine W.seqK fun K hK => W.drawK [⟨0, false, []⟩, ⟨0, false, []⟩, ⟨0, false, [1]⟩, ⟨0, false, []⟩, ⟨0, false, []⟩, ⟨0, false, [3, 4]⟩, ⟨1, false, [0, 1, 2, 3, 4, 5]⟩, ⟨0, false, [0, 1, 2, 3, 4, 5, 6]⟩, ⟨0, false, [0, 1, 2, 3, 4, 5, 6]⟩, ⟨0, false, [0, 1, 2, 3, 4, 5, 6, 7, 8]⟩, ⟨0, false, [0, 1, 2, 3, 4, 5, 6, 7, 8, 9]⟩] mix tt_ok (by kernel_rfl) ?_
  simp only [exOp_eq, exCall_eq, exD_cons, nxD_eq, cur_eq, flI, ownB, evL, stepQ, ev, ofV, lk, putT, erA, inB, opt, bnd, req, ret, onQ, ap, ldP, ldE, ldC, ldS, Kd.agg, comps, csize, takeI, takeC, dropC, fldF, slF, bd, bds, and_true, true_and, and_self, Nat.reduceEqDiff, Nat.reduceLT, Nat.reduceLeDiff, Nat.reduceAdd, Nat.reduceSub, Nat.sub_self, Int.toNat_natCast, Nat.le_refl, Nat.add_zero, Nat.zero_add, if_true, if_false, reduceCtorEq, ne_eq, not_false_eq_true, List.getElem?_cons_zero, List.getElem?_cons_succ, Option.bind_some, Option.map_some, tt_5, tt_22, tt_24, tt_36, tt_43, List.drop_zero, hCC, Int.toNat_natCast]
  refine ⟨⟨by omega, by omega⟩, ?_⟩
  refine CallK.with [] [(688, .vec 5 (.ints .u8 F))] _ _ c13 call13 (by simp only [AV.nmIn, bnd, req, ret, onQ, AV.isTup, isTupL, true_and, and_self, Bool.false_eq_true, List.append_nil, vw.vwL, vw, AV.free, AV.freeL, Bool.or_self]; all_goals (and_intros <;> first | exact AV.subL_refl _ | omega | rfl | (simp []; done) | (simp [AV.subL, AV.sub, entsFree]; done))) (by simp [leL]) (by intro n hn; first | (left; revert hn; simp [Nm, lk]; done) | (right; revert hn; simp only [Nm, lk]; split <;> simp <;> omega)) (by simp [entsIn]) ?_
  simp only [callDel, exOp_eq, exD_nil, exD_cons, nxD_eq, cur_eq, flI, ownB, ownL, stepQ, ev, lk, putT, erA, inB, opt, ret, onQ, ap, up, er, true_and, and_self, Nat.reduceEqDiff, Nat.reduceLT, Nat.reduceAdd, Nat.le_refl, if_true, if_false, reduceCtorEq, List.getElem?_cons_zero, List.getElem?_cons_succ, List.nil_append, List.map_cons, List.map_nil, List.reverse_cons, List.reverse_nil]
  refine hK _ ?_
  clear hK K
  refine W.ret ?_
  simp only [fin_ret, finB, resQ, resV, leL, AV.nmIn, AV.nmInL, entsIn, lk, opt, bnd, req, ret, onQ, AV.isTup, and_true, true_and, and_self, Nat.reduceEqDiff, if_true, if_false, reduceCtorEq]
  simp [hCl, Nm, lk, Ent.nmIn, Row.nmIn]
theorem open_at (X : Nat) (key : List Int) (n : Int) (ad box : List Int) (hk : key.length = 32) (ha : ad.length ≤ 60000) (hb : 16 ≤ box.length) (hm : box.length ≤ 60000 + 16)
    (heq : (decide ((tagN key (nonN n) ad (box.take (box.length - 16))).length = (box.drop (box.length - 16)).length) && (xorA (tagN key (nonN n) ad (box.take (box.length - 16))) (box.drop (box.length - 16)) (tagN key (nonN n) ad (box.take (box.length - 16))).length == 0)) = true) :
    FnR Tryd.prog G 11 [.agg [.ints .u8 32 key], .int .u64 n, .lstI .u8 ad, .lstI .u8 box] [] (.tup [.sl X 1 0 (box.length - 16), .int .i64 0]) [(X, .vec 5 (.ints .u8 (xorO key (nonN n) 1 (box.take (box.length - 16)) (box.take (box.length - 16)).length)))] := by
  have h := (open_own key n ad box hk ha hb hm heq).rename 688 X
  simpa [AV.map, AV.mapL, swp, enMap, Ent.map, Row.map] using h
theorem open_ok (key : List Int) (n : Int) (ad box : List Int) (hk : key.length = 32) (ha : ad.length ≤ 60000) (hb : 16 ≤ box.length) (hm : box.length ≤ 60000 + 16)
    (heq : (decide ((tagN key (nonN n) ad (box.take (box.length - 16))).length = (box.drop (box.length - 16)).length) && (xorA (tagN key (nonN n) ad (box.take (box.length - 16))) (box.drop (box.length - 16)) (tagN key (nonN n) ad (box.take (box.length - 16))).length == 0)) = true) :
    FnR Tryd.prog G 11 [.agg [.ints .u8 32 key], .int .u64 n, .lstI .u8 ad, .lstI .u8 box] [] (.tup [.lstI .u8 (xorO key (nonN n) 1 (box.take (box.length - 16)) (box.take (box.length - 16)).length), .int .i64 0]) [] := by
  have hl : (xorO key (nonN n) 1 (box.take (box.length - 16)) (box.take (box.length - 16)).length).length = box.length - 16 := by rw [xorO_len, List.length_take]; omega
  have h := open_own key n ad box hk ha hb hm heq
  generalize xorO key (nonN n) 1 (box.take (box.length - 16)) (box.take (box.length - 16)).length = F at *
  refine h.valT (F := true) ⟨box.length - 16 ≤ F.length, ?_, by omega⟩
  simp [vw.vwL, vw, viewR, Ent.row, lk, opt, bnd, req, ret, AV.nmIn]
  exact List.take_of_length_le (by omega)
theorem open_bad (key : List Int) (n : Int) (ad box : List Int) (hk : key.length = 32) (ha : ad.length ≤ 60000) (hb : 16 ≤ box.length) (hm : box.length ≤ 60000 + 16)
    (heq : (decide ((tagN key (nonN n) ad (box.take (box.length - 16))).length = (box.drop (box.length - 16)).length) && (xorA (tagN key (nonN n) ad (box.take (box.length - 16))) (box.drop (box.length - 16)) (tagN key (nonN n) ad (box.take (box.length - 16))).length == 0)) = false) :
    FnR Tryd.prog G 11 [.agg [.ints .u8 32 key], .int .u64 n, .lstI .u8 ad, .lstI .u8 box] [] (.tup [.nils, .int .i64 5]) [] := by
  have h1 : ¬ (60000 : Int) < ad.length := by omega
  have h2 : ¬ (60000 : Int) < ((box.length - 16 : Nat) : Int) := by omega
  have h3 : ¬ ((box.length - 16 : Nat) : Int) < 0 := by omega
  have hat : IntKind.i64.wrap ((box.length : Int) - 16) = ((box.length - 16 : Nat) : Int) := by rw [at_eq _ (by omega)]; omega
  have hnl := nonN_len n
  have c14 := locked_fn key n hk
  have hCl : (box.take (box.length - 16)).length = box.length - 16 := by rw [List.length_take]; omega
  have hDl : ((box.take box.length).drop (box.length - 16)).length = 16 := by rw [List.take_length, List.length_drop]; omega
  have hD' : (box.take box.length).drop (box.length - 16) = box.drop (box.length - 16) := by rw [List.take_length]
  have hTl := tagN_len key (nonN n) ad (box.take (box.length - 16))
  have c15 := sumL_fn key (nonN n) ad (box.take (box.length - 16)) hk hnl (by omega) (by omega)
  have c19 := equal_fn (tagN key (nonN n) ad (box.take (box.length - 16))) (box.drop (box.length - 16)) (by omega)
  have c13 := Sm.xor_ok key (nonN n) 1 (box.take (box.length - 16)) hk hnl (by omega) (by omega) (by omega)
  generalize hN : nonN n = N at *
  generalize hTT : tagN key N ad (box.take (box.length - 16)) = T at *
  generalize hFF : xorO key N 1 (box.take (box.length - 16)) (box.take (box.length - 16)).length = F at *
  rw [heq] at c19
  generalize hCC : box.take (box.length - 16) = C at *
  generalize hDD : box.drop (box.length - 16) = D at *
  have hT16 : List.take 16 (List.drop 0 T) = T := by rw [List.drop_zero, List.take_of_length_le (by omega)]
  refine FnR.of_walkT (m := 51) tt_ok Tryd.func11 rfl rfl (by simp) ?_
  rw [show Tryd.f11.results.toList = [.tmp 8, .tmp 9] from rfl]
  refine W.seqK fun K hK => W.regionK tt_ok ?_
  simp only [exOps_nil, exOps_cons, exOp_eq, nx_eq, cur_eq, stepQ, ev, ofV, lk, parT, putT, erA, inB, opt, req, ret, onQ, ap, up, er, AV.isTup, true_and, and_self, Nat.reduceEqDiff, Nat.reduceLT, Nat.reduceAdd, Nat.zero_add, if_true, if_false, reduceCtorEq]
  refine hK _ ?_
  clear hK K
  refine W.seqK fun K hK => W.regionK tt_ok ?_
  simp only [exOps_nil, exOps_cons, exOp_eq, exCall_eq, nx_eq, cur_eq, evL, stepQ, ev, ofV, lk, putT, erA, inB, opt, bnd, req, ret, onQ, ap, binG, binF, intF, bltQ, bltV, lenF, true_and, and_self, or_false, Nat.reduceEqDiff, Nat.reduceLT, Nat.reduceAdd, if_true, if_false, reduceCtorEq, List.getElem?_cons_zero, Option.bind_some, Option.map_some, tt_24, hat]
  refine hK _ ?_
  clear hK K
  refine W.seqK fun Kz hKz => W.blockK ?_
  refine W.seqK fun K hK => W.regionK tt_ok ?_
  simp only [↓gFF, ↓nFF, decide_false, exOps_nil, exOps_cons, exOp_eq, exCall_eq, nx_eq, cur_eq, evL, stepQ, ev, ofV, lk, putT, erA, inB, opt, bnd, req, ret, onQ, ap, binG, binF, intF, pickF, bltQ, bltV, lenF, and_true, true_and, and_self, or_false, Nat.reduceEqDiff, Nat.reduceLT, Nat.reduceAdd, if_true, if_false, reduceCtorEq, List.getElem?_cons_zero, List.getElem?_cons_succ, Option.bind_some, Option.map_some, tt_24, h1, h2]
  refine hK _ ?_
  clear hK K
  refine W.cond (b := false) (by simp only [ev, lk, Nat.reduceEqDiff, if_true, if_false, reduceCtorEq]) (fun h => absurd h (by simp)) (fun _ => ?_)
  refine W.seqK fun K hK => W.regionK tt_ok ?_
  simp only [decide_false, exOps_nil, exOps_cons, exOp_eq, nx_eq, cur_eq, stepQ, ev, ofV, lk, putT, erA, inB, opt, bnd, req, ret, onQ, ap, binG, binF, intF, true_and, and_self, Nat.reduceEqDiff, Nat.reduceLT, Nat.reduceAdd, if_true, if_false, reduceCtorEq, h3]
  refine hK _ ?_
  clear hK K
  refine W.cond (b := false) (by simp only [ev, lk, Nat.reduceEqDiff, if_true, if_false, reduceCtorEq]) (fun h => absurd h (by simp)) (fun _ => W.skip ?_)
  simp only [thn_normal, inb_normal]
  refine hKz _ ?_
  refine W.seqK fun K hK => W.regionK tt_ok ?_
  simp only [exOps_cons, exOp_eq, exCall_eq, nx_eq, cur_eq, evL, stepQ, ev, lk, putT, erA, inB, opt, bnd, req, ret, onQ, ap, ldP, ldE, ldC, ldS, Kd.agg, comps, csize, takeI, takeC, dropC, true_and, and_self, Nat.reduceEqDiff, Nat.reduceLT, Nat.reduceLeDiff, Nat.reduceAdd, Nat.reduceSub, Nat.sub_self, Nat.le_refl, Nat.add_zero, if_true, if_false, reduceCtorEq, Option.bind_some, Option.map_some, tt_22]
  refine CallK.pure _ _ c14 call14 (by simp only [AV.nmIn, bnd, req, ret, onQ, AV.isTup, isTupL, true_and, and_self, Bool.false_eq_true, List.append_nil, vw.vwL, vw, AV.free, AV.freeL, Bool.or_self]; all_goals (and_intros <;> first | exact AV.subL_refl _ | omega | rfl | (simp []; done) | (simp; exact AV.subL_refl _) | (simp [AV.subL, AV.sub]; done))) ?_
  simp only [exOps_nil, exOps_cons, exOp_eq, nx_eq, cur_eq, stepQ, ev, lk, putT, erA, inB, opt, bnd, req, ret, onQ, ap, up, er, AV.isAgg, Kd.agg, comps, szL, csize, takeI, takeC, dropC, stP, stE, stC, stS, true_and, and_self, Nat.reduceEqDiff, Nat.reduceLT, Nat.reduceLeDiff, Nat.reduceAdd, Nat.reduceSub, Nat.sub_self, Nat.le_refl, Nat.add_zero, Nat.zero_add, if_true, if_false, reduceCtorEq, Option.bind_some, Option.map_some, List.append_nil, List.nil_append, tt_43]
  refine hK _ ?_
  clear hK K
  refine W.seqK fun Kw hKw => ?_
  refine W.seqK fun K hK => W.drawK [⟨0, true, []⟩, ⟨0, false, []⟩, ⟨0, false, []⟩, ⟨0, false, []⟩, ⟨0, true, [2, 3]⟩, ⟨0, true, [0, 1, 2, 3, 4]⟩, ⟨1, false, []⟩, ⟨2, false, [0, 1, 2, 3, 4, 5, 6]⟩] mix tt_ok (by kernel_rfl) ?_
  simp only [decide_true, Bool.or_true, Bool.or_false, List.contains_cons, List.contains_nil, Nat.reduceBEq, exOp_eq, exCall_eq, exD_cons, nxD_eq, cur_eq, flI, flE, ownB, evL, stepQ, ev, lk, putT, erA, inB, opt, bnd, req, ret, onQ, ap, ldP, ldE, ldC, ldS, Kd.agg, comps, csize, takeI, takeC, dropC, slF, bd, bds, and_true, true_and, and_self, Nat.reduceEqDiff, Nat.reduceLT, Nat.reduceLeDiff, Nat.reduceAdd, Nat.reduceSub, Nat.reduceDiv, Nat.sub_self, Int.toNat_natCast, Nat.le_refl, Nat.add_zero, if_true, if_false, reduceCtorEq, Option.bind_some, Option.map_some, tt_5, tt_24, tt_43, List.drop_zero, hCC, Int.toNat_natCast]
  refine ⟨⟨by omega, by omega⟩, ?_⟩
  refine CallK.pure _ _ c15 call15 (by simp only [AV.nmIn, bnd, req, ret, onQ, AV.isTup, isTupL, true_and, and_self, Bool.false_eq_true, List.append_nil, vw.vwL, vw, AV.free, AV.freeL, Bool.or_self]; all_goals (and_intros <;> first | exact AV.subL_refl _ | omega | rfl | (simp []; done) | (simp; exact AV.subL_refl _) | (simp [AV.subL, AV.sub]; done))) ?_
  simp only [exOp_eq, exD_nil, exD_cons, nxD_eq, cur_eq, flI, ownB, ownL, stepQ, ev, lk, putT, erA, inB, opt, bnd, req, ret, onQ, ap, up, er, AV.isAgg, Kd.agg, comps, szL, csize, takeI, takeC, dropC, stP, stE, stC, stS, true_and, and_self, Nat.reduceEqDiff, Nat.reduceLT, Nat.reduceLeDiff, Nat.reduceAdd, Nat.reduceSub, Nat.sub_self, Nat.le_refl, Nat.add_zero, Nat.zero_add, if_true, if_false, reduceCtorEq, Option.bind_some, Option.map_some, List.append_nil, List.nil_append, tt_45]
  refine hK _ ?_
  clear hK K
  have hT16' : List.take 16 T = T := List.take_of_length_le (by omega)
  rw [← hT16'] at c19
  refine W.seqK fun K hK => W.drawK [⟨0, false, []⟩, ⟨0, false, []⟩, ⟨0, false, []⟩, ⟨0, false, [1, 2]⟩, ⟨0, false, [0, 1, 2, 3]⟩, ⟨0, false, [0, 1, 2, 3, 4]⟩] mix tt_ok (by kernel_rfl) ?_
  simp only [exOp_eq, exCall_eq, exD_cons, nxD_eq, cur_eq, flI, ownB, evL, stepQ, ev, lk, putT, erA, inB, opt, bnd, req, ret, onQ, ap, comps, szL, csize, slF, bd, bds, and_true, true_and, and_self, Nat.reduceEqDiff, Nat.reduceLT, Nat.reduceLeDiff, Nat.reduceAdd, Nat.reduceSub, Nat.reduceMul, Int.toNat_natCast, Nat.add_zero, if_true, if_false, reduceCtorEq, Option.bind_some, Option.map_some, tt_5, tt_24, tt_45, hD', Int.toNat_natCast]
  refine ⟨⟨by omega, by omega⟩, ?_⟩
  refine CallK.pure _ _ c19 call19 (by simp only [Bool.or_false, AV.nmIn, lk, opt, bnd, req, ret, onQ, AV.isTup, isTupL, Ent.row, and_true, true_and, and_self, Nat.reduceEqDiff, Nat.zero_add, if_true, if_false, reduceCtorEq, forall_const, List.append_nil, vw.vwL, vw, viewR, AV.free, Ent.row, Bool.or_self]; all_goals (and_intros <;> first | exact AV.subL_refl _ | omega | rfl | (simp [AV.subL_refl]; done) | (simp; exact AV.subL_refl _) | (simp [AV.subL, AV.sub]; done))) ?_
  simp only [Bool.not_false, exOp_eq, exD_nil, exD_cons, nxD_eq, cur_eq, flI, ownB, stepQ, ev, lk, putT, erA, inB, opt, bnd, req, ret, onQ, ap, unF, true_and, and_self, Nat.reduceEqDiff, Nat.reduceLT, Nat.reduceAdd, if_true, if_false, reduceCtorEq]
  refine hK _ ?_
  clear hK K
  refine W.cond (b := true) (by simp only [ev, lk, Nat.reduceEqDiff, if_true, if_false, reduceCtorEq]) (fun _ => ?_) (fun h => absurd h (by simp))
  refine W.seqK fun K hK => W.regionK tt_ok ?_
  simp only [exOps_nil, exOps_cons, exOp_eq, nx_eq, cur_eq, stepQ, ev, ofV, putT, erA, inB, opt, ret, onQ, ap, true_and, Nat.reduceEqDiff, Nat.reduceLT, Nat.reduceAdd, if_true, if_false, reduceCtorEq]
  refine hK _ ?_
  clear hK K
  refine W.ret ?_
  simp only [finT_ret, finTB, resQ, lk, opt, bnd, req, ret, onQ, AV.isTup, thn_ret, true_and, and_self, Nat.reduceEqDiff, if_true, if_false, reduceCtorEq, ne_eq]
  simp [vw.vwL, vw, bnd, req, ret, AV.nmIn]
end Go.Proofs.YtakgcmponelbeaaDoor
