/- Seal. -/
import Derived.Test.YtakgcmponelbeaaDoorAeE
import Derived.Test.YtakgcmponelbeaaDoorAmC
-- TT 3 5 22 23 24 28 36 43 45
set_option linter.unusedVariables false
set_option linter.unusedSimpArgs false
namespace Go.Proofs.YtakgcmponelbeaaDoor
open Sx
open Sm (xorO xorO_len)
set_option maxRecDepth 100000
theorem call13 : Callable Tryd.prog 13 := ⟨_, Tryd.func13, by kernel_rfl, by kernel_rfl⟩
theorem call14 : Callable Tryd.prog 14 := ⟨_, Tryd.func14, by kernel_rfl, by kernel_rfl⟩
theorem call15 : Callable Tryd.prog 15 := ⟨_, Tryd.func15, by kernel_rfl, by kernel_rfl⟩
theorem call19 : Callable Tryd.prog 19 := ⟨_, Tryd.func19, by kernel_rfl, by kernel_rfl⟩

theorem seal_big (key : List Int) (n : Int) (ad b : List Int) (hb : 60000 < ad.length ∨ 60000 < b.length) :
    FnR Tryd.prog G 9 [.agg [.ints .u8 32 key], .int .u64 n, .lstI .u8 ad, .lstI .u8 b] [] (.tup [.nils, .int .i64 3]) [] := by
  refine FnR.of_walk (m := 43) (n0 := 0) tt_ok Tryd.func9 rfl rfl (by simp) (by simp [nmH]) ?_
  rw [show Tryd.f9.results.toList = [.tmp 8, .tmp 9] from rfl]
  refine W.seqK fun K hK => W.regionK tt_ok ?_
  simp only [exOps_nil, exOps_cons, exOp_eq, nx_eq, cur_eq, stepQ, ev, ofV, lk, parT, putT, erA, inB, opt, req, ret, onQ, ap, up, er, AV.isTup, true_and, and_self, Nat.reduceEqDiff, Nat.reduceLT, Nat.reduceAdd, Nat.zero_add, if_true, if_false, reduceCtorEq]
  refine hK _ ?_
  clear hK K
  refine W.seqK fun Kz hKz => ?_
  by_cases h1 : (60000 : Int) < ad.length
  · refine W.seqK fun K hK => W.regionK tt_ok ?_
    simp only [↓gTF, ↓nTF, decide_true, exOps_nil, exOps_cons, exOp_eq, exCall_eq, nx_eq, cur_eq, evL, stepQ, ev, ofV, lk, putT, erA, inB, opt, bnd, req, ret, onQ, ap, binG, binF, intF, pickF, bltQ, bltV, lenF, true_and, and_self, or_false, Nat.reduceEqDiff, Nat.reduceLT, Nat.reduceAdd, if_true, if_false, reduceCtorEq, List.getElem?_cons_zero, List.getElem?_cons_succ, Option.bind_some, Option.map_some, tt_24, h1]
    refine hK _ ?_
    clear hK K
    refine W.cond (b := true) (by simp only [ev, lk, Nat.reduceEqDiff, if_true, if_false, reduceCtorEq]) (fun _ => ?_) (fun h => absurd h (by simp))
    refine W.seqK fun K hK => W.regionK tt_ok ?_
    simp only [exOps_nil, exOps_cons, exOp_eq, nx_eq, cur_eq, stepQ, ev, ofV, putT, erA, inB, opt, ret, onQ, ap, true_and, Nat.reduceEqDiff, Nat.reduceLT, Nat.reduceAdd, if_true, if_false, reduceCtorEq]
    refine hK _ ?_
    clear hK K
    refine W.ret ?_
    simp only [fin_ret, finB, resQ, resV, leL, AV.nmIn, AV.nmInL, entsIn, lk, opt, bnd, req, ret, onQ, AV.isTup, thn_ret, and_self, Nat.reduceEqDiff, if_true, if_false, reduceCtorEq]
  · have h2 : (60000 : Int) < b.length := by omega
    refine W.seqK fun K hK => W.regionK tt_ok ?_
    simp only [↓gFF, ↓nFF, decide_true, decide_false, exOps_nil, exOps_cons, exOp_eq, exCall_eq, nx_eq, cur_eq, evL, stepQ, ev, ofV, lk, putT, erA, inB, opt, bnd, req, ret, onQ, ap, binG, binF, intF, pickF, bltQ, bltV, lenF, and_true, true_and, and_self, or_false, Nat.reduceEqDiff, Nat.reduceLT, Nat.reduceAdd, if_true, if_false, reduceCtorEq, List.getElem?_cons_zero, List.getElem?_cons_succ, Option.bind_some, Option.map_some, tt_24, h1, h2]
    refine hK _ ?_
    clear hK K
    refine W.cond (b := true) (by simp only [ev, lk, Nat.reduceEqDiff, if_true, if_false, reduceCtorEq]) (fun _ => ?_) (fun h => absurd h (by simp))
    refine W.seqK fun K hK => W.regionK tt_ok ?_
    simp only [exOps_nil, exOps_cons, exOp_eq, nx_eq, cur_eq, stepQ, ev, ofV, putT, erA, inB, opt, ret, onQ, ap, true_and, Nat.reduceEqDiff, Nat.reduceLT, Nat.reduceAdd, if_true, if_false, reduceCtorEq]
    refine hK _ ?_
    clear hK K
    refine W.ret ?_
    simp only [fin_ret, finB, resQ, resV, leL, AV.nmIn, AV.nmInL, entsIn, lk, opt, bnd, req, ret, onQ, AV.isTup, thn_ret, and_self, Nat.reduceEqDiff, if_true, if_false, reduceCtorEq]
theorem outN_len (h : List Int) : ∀ k, (Tg.outN h k).length = 16
  | 0 => by simp [Tg.outN]
  | k + 1 => by simp [Tg.outN, outN_len h k]
theorem tagN_len (key nonce ad c : List Int) : (tagN key nonce ad c).length = 16 := outN_len _ 16
/-- What a text is sealed to. -/
def sealN (key : List Int) (n : Int) (ad b : List Int) : List Int :=
  xorO key (nonN n) 1 b b.length ++ tagN key (nonN n) ad (xorO key (nonN n) 1 b b.length)
theorem seal_own (key : List Int) (n : Int) (ad b : List Int) (hk : key.length = 32) (ha : ad.length ≤ 60000) (hb : b.length ≤ 60000) :
    FnR Tryd.prog G 9 [.agg [.ints .u8 32 key], .int .u64 n, .lstI .u8 ad, .lstI .u8 b] [] (.tup [.sl 576 1 0 (b.length + 16), .int .i64 0]) [(576, .vec 5 (.ints .u8 (sealN key n ad b)))] := by
  have h1 : ¬ (60000 : Int) < ad.length := by omega
  have h2 : ¬ (60000 : Int) < b.length := by omega
  have hnl := nonN_len n
  have c14 := locked_fn key n hk
  have c1 := Sm.xor_at 320 key (nonN n) 1 b hk hnl (by omega) (by omega) (by omega)
  have hF : (xorO key (nonN n) 1 b b.length).length = b.length := xorO_len _ _ _ _ _
  unfold sealN
  generalize hN : nonN n = N at *
  generalize hFF : xorO key N 1 b b.length = F at *
  refine FnR.of_walk (m := 43) (n0 := 0) tt_ok Tryd.func9 rfl rfl (by simp) (by simp [nmH]) ?_
  rw [show Tryd.f9.results.toList = [.tmp 8, .tmp 9] from rfl]
  refine W.seqK fun K hK => W.regionK tt_ok ?_
  simp only [exOps_nil, exOps_cons, exOp_eq, nx_eq, cur_eq, stepQ, ev, ofV, lk, parT, putT, erA, inB, opt, req, ret, onQ, ap, up, er, AV.isTup, true_and, and_self, Nat.reduceEqDiff, Nat.reduceLT, Nat.reduceAdd, Nat.zero_add, if_true, if_false, reduceCtorEq]
  refine hK _ ?_
  clear hK K
  refine W.seqK fun Kz hKz => ?_
  refine W.seqK fun K hK => W.regionK tt_ok ?_
  simp only [↓gFF, ↓nFF, decide_false, exOps_nil, exOps_cons, exOp_eq, exCall_eq, nx_eq, cur_eq, evL, stepQ, ev, ofV, lk, putT, erA, inB, opt, bnd, req, ret, onQ, ap, binG, binF, intF, pickF, bltQ, bltV, lenF, and_true, true_and, and_self, or_false, Nat.reduceEqDiff, Nat.reduceLT, Nat.reduceAdd, if_true, if_false, reduceCtorEq, List.getElem?_cons_zero, List.getElem?_cons_succ, Option.bind_some, Option.map_some, tt_24, h1, h2]
  refine hK _ ?_
  clear hK K
  refine W.cond (b := false) (by simp only [ev, lk, Nat.reduceEqDiff, if_true, if_false, reduceCtorEq]) (fun h => absurd h (by simp)) (fun _ => W.skip ?_)
  rw [thn_normal]
  refine hKz _ ?_
  refine W.seqK fun K hK => W.regionK tt_ok ?_
  simp only [exOps_cons, exOp_eq, exCall_eq, nx_eq, cur_eq, evL, stepQ, ev, lk, putT, erA, inB, opt, bnd, req, ret, onQ, ap, ldP, ldE, ldC, ldS, Kd.agg, comps, csize, takeI, takeC, dropC, true_and, and_self, Nat.reduceEqDiff, Nat.reduceLT, Nat.reduceLeDiff, Nat.reduceAdd, Nat.reduceSub, Nat.sub_self, Nat.le_refl, Nat.add_zero, if_true, if_false, reduceCtorEq, Option.bind_some, Option.map_some, tt_22]
  refine CallK.pure _ _ c14 call14 (by simp only [AV.nmIn, bnd, req, ret, onQ, AV.isTup, isTupL, true_and, and_self, Bool.false_eq_true, List.append_nil, vw.vwL, vw, AV.free, AV.freeL, Bool.or_self]; all_goals (and_intros <;> first | exact AV.subL_refl _ | omega | rfl | (simp []; done) | (simp; exact AV.subL_refl _) | (simp [AV.subL, AV.sub]; done))) ?_
  simp only [exOps_nil, exOps_cons, exOp_eq, nx_eq, cur_eq, stepQ, ev, lk, putT, erA, inB, opt, bnd, req, ret, onQ, ap, up, er, AV.isAgg, Kd.agg, comps, szL, csize, takeI, takeC, dropC, stP, stE, stC, stS, true_and, and_self, Nat.reduceEqDiff, Nat.reduceLT, Nat.reduceLeDiff, Nat.reduceAdd, Nat.reduceSub, Nat.sub_self, Nat.le_refl, Nat.add_zero, Nat.zero_add, if_true, if_false, reduceCtorEq, Option.bind_some, Option.map_some, List.append_nil, List.nil_append, tt_43]
  refine hK _ ?_
  clear hK K
  refine W.seqK fun K hK => W.regionK tt_ok ?_
  simp only [exOps_cons, exOp_eq, exCall_eq, nx_eq, cur_eq, evL, stepQ, ev, ofV, lk, putT, erA, inB, opt, bnd, req, ret, onQ, ap, ldP, ldE, ldC, ldS, Kd.agg, comps, csize, takeI, takeC, dropC, fldF, and_true, true_and, and_self, Nat.reduceEqDiff, Nat.reduceLT, Nat.reduceLeDiff, Nat.reduceAdd, Nat.reduceSub, Nat.sub_self, Nat.le_refl, Nat.add_zero, Nat.zero_add, if_true, if_false, reduceCtorEq, ne_eq, not_false_eq_true, List.getElem?_cons_zero, List.getElem?_cons_succ, Option.bind_some, Option.map_some, tt_22, tt_36, tt_43]
  refine CallK.with [] [(320, .vec 5 (.ints .u8 F))] _ _ c1 call13 (by simp only [AV.nmIn, bnd, req, ret, onQ, AV.isTup, isTupL, true_and, and_self, Bool.false_eq_true, List.append_nil, vw.vwL, vw, AV.free, AV.freeL, Bool.or_self]; all_goals (and_intros <;> first | exact AV.subL_refl _ | omega | rfl | (simp []; done) | (simp [AV.subL, AV.sub, entsFree]; done))) (by simp [leL]) (by intro n hn; first | (left; revert hn; simp [Nm, lk]; done) | (right; revert hn; simp only [Nm, lk]; split <;> simp <;> omega)) (by simp [entsIn]) ?_
  simp only [callDel, exOps_nil, exOps_cons, exOp_eq, nx_eq, cur_eq, stepQ, ev, lk, putT, erA, inB, opt, ret, onQ, ap, up, er, true_and, Nat.reduceEqDiff, Nat.reduceLT, Nat.reduceAdd, if_true, if_false, reduceCtorEq, List.getElem?_cons_zero, List.getElem?_cons_succ, List.nil_append, List.map_cons, List.map_nil, List.reverse_cons, List.reverse_nil]
  rw [← hF]
  refine hK _ ?_
  clear hK K
  have c15 := sumL_fn key N ad F hk hnl (by omega) (by omega)
  have hT : List.take F.length F = F := List.take_length
  have hTl := tagN_len key N ad F
  generalize hTT : tagN key N ad F = T at *
  rw [← hT] at c15
  refine W.seqK fun Kz hKz => ?_
  refine W.seqK fun K hK => W.regionK tt_ok ?_
  simp only [Int.reduceBNe, exOps_nil, exOps_cons, exOp_eq, nx_eq, cur_eq, stepQ, ev, ofV, lk, putT, erA, inB, opt, bnd, req, ret, onQ, ap, binG, binF, intF, true_and, and_self, Nat.reduceEqDiff, Nat.reduceLT, Nat.reduceAdd, if_true, if_false, reduceCtorEq]
  refine hK _ ?_
  clear hK K
  refine W.cond (b := false) (by simp only [ev, lk, Nat.reduceEqDiff, if_true, if_false, reduceCtorEq]) (fun h => absurd h (by simp)) (fun _ => W.skip ?_)
  rw [thn_normal]
  refine hKz _ ?_
  refine W.seqK fun K hK => W.regionK tt_ok ?_
  simp only [exOps_cons, exOp_eq, exCall_eq, nx_eq, cur_eq, evL, stepQ, ev, lk, putT, erA, inB, opt, bnd, req, ret, onQ, ap, ldP, ldE, ldC, ldS, Kd.agg, comps, csize, takeI, takeC, dropC, true_and, and_self, Nat.reduceEqDiff, Nat.reduceLT, Nat.reduceLeDiff, Nat.reduceAdd, Nat.reduceSub, Nat.sub_self, Nat.le_refl, Nat.add_zero, if_true, if_false, reduceCtorEq, Option.bind_some, Option.map_some, tt_43]
  refine CallK.pure _ _ c15 call15 (by simp only [Bool.or_true, Bool.or_false, AV.nmIn, lk, opt, bnd, req, ret, onQ, AV.isTup, isTupL, Ent.row, true_and, and_self, Nat.reduceEqDiff, Nat.le_refl, Nat.zero_add, if_true, if_false, reduceCtorEq, forall_const, List.append_nil, vw.vwL, vw, viewR, AV.free, AV.freeL, Ent.row, Bool.or_self]; all_goals (and_intros <;> first | exact AV.subL_refl _ | omega | rfl | (simp [AV.subL_refl]; done) | (simp; exact AV.subL_refl _) | (simp [AV.subL, AV.sub]; done))) ?_
  simp only [exOps_nil, exOps_cons, exOp_eq, nx_eq, cur_eq, stepQ, ev, lk, putT, erA, inB, opt, bnd, req, ret, onQ, ap, up, er, AV.isAgg, Kd.agg, comps, szL, csize, takeI, takeC, dropC, stP, stE, stC, stS, true_and, and_self, Nat.reduceEqDiff, Nat.reduceLT, Nat.reduceLeDiff, Nat.reduceAdd, Nat.reduceSub, Nat.sub_self, Nat.le_refl, Nat.add_zero, Nat.zero_add, if_true, if_false, reduceCtorEq, Option.bind_some, Option.map_some, List.append_nil, List.nil_append, tt_45]
  refine hK _ ?_
  clear hK K
  refine W.seqK fun K hK => W.regionK tt_ok ?_
  simp only [exOps_nil, exOps_cons, exOp_eq, exCall_eq, nx_eq, cur_eq, evL, stepQ, ev, ofV, lk, putT, erA, inB, opt, bnd, req, ret, onQ, ap, up, er, comps, szL, csize, bltQ, bltV, slF, bd, bds, appQ, appV, srcQ, Row.len, Row.sz, Row.take, Row.drop, Row.app, Ent.row, and_true, true_and, and_self, or_false, Nat.reduceEqDiff, Nat.reduceLT, Nat.reduceLeDiff, Nat.reduceAdd, Nat.reduceSub, Nat.reduceMul, Nat.le_refl, Nat.add_zero, Nat.zero_add, if_true, if_false, reduceCtorEq, Option.bind_some, Option.map_some, tt_5, tt_24, tt_45]
  have hT16 : List.take 16 (List.drop 0 T) = T := by rw [List.drop_zero, List.take_of_length_le (by omega)]
  rw [hT16, hT]
  refine ⟨⟨by omega, by omega, by omega⟩, ?_⟩
  refine hK _ ?_
  clear hK K
  refine W.ret ?_
  simp only [fin_ret, finB, resQ, resV, leL, AV.nmIn, AV.nmInL, entsIn, lk, opt, bnd, req, ret, onQ, AV.isTup, and_true, true_and, and_self, Nat.reduceEqDiff, if_true, if_false, reduceCtorEq]
  rw [hTl, hF]
  simp [Nm, lk, Ent.nmIn, Row.nmIn]
theorem sealN_len (key : List Int) (n : Int) (ad b : List Int) : (sealN key n ad b).length = b.length + 16 := by
  rw [sealN, List.length_append, xorO_len, tagN_len]
theorem seal_at (X : Nat) (key : List Int) (n : Int) (ad b : List Int) (hk : key.length = 32) (ha : ad.length ≤ 60000) (hb : b.length ≤ 60000) :
    FnR Tryd.prog G 9 [.agg [.ints .u8 32 key], .int .u64 n, .lstI .u8 ad, .lstI .u8 b] [] (.tup [.sl X 1 0 (b.length + 16), .int .i64 0]) [(X, .vec 5 (.ints .u8 (sealN key n ad b)))] := by
  have h := (seal_own key n ad b hk ha hb).rename 576 X
  simpa [AV.map, AV.mapL, swp, enMap, Ent.map, Row.map] using h
theorem seal_ok (key : List Int) (n : Int) (ad b : List Int) (hk : key.length = 32) (ha : ad.length ≤ 60000) (hb : b.length ≤ 60000) :
    FnR Tryd.prog G 9 [.agg [.ints .u8 32 key], .int .u64 n, .lstI .u8 ad, .lstI .u8 b] [] (.tup [.lstI .u8 (sealN key n ad b), .int .i64 0]) [] := by
  refine (seal_own key n ad b hk ha hb).valT (F := true) ⟨b.length + 16 ≤ (sealN key n ad b).length, ?_, by rw [sealN_len]; exact Nat.le_refl _⟩
  simp [vw.vwL, vw, viewR, Ent.row, lk, opt, bnd, req, ret, AV.nmIn, sealN_len]
  exact List.take_of_length_le (by rw [sealN_len]; exact Nat.le_refl _)
end Go.Proofs.YtakgcmponelbeaaDoor
