/- The statement AeadStream: the walk. -/
-- TT 3 4 5 9 22 23 24 26 28 36
import Derived.Test.YtakgcmponelbeaaDoorAeI
set_option linter.unusedVariables false
set_option linter.unusedSimpArgs false
namespace Go.Proofs.YtakgcmponelbeaaDoor
open Sx
open Sm (xorO xorO_len)
set_option maxRecDepth 100000
set_option maxHeartbeats 2000000
/-- The nonce, byte by byte. -/
def nK (n : Int) : Nat → List Int
  | 0 => List.replicate 12 0
  | k + 1 => (nK n k).set (4 + k) (IntKind.u8.wrap (n.fdiv (2 ^ min (8 * k) IntKind.u64.bits)))
theorem nK_len (n : Int) : ∀ k, (nK n k).length = 12
  | 0 => by simp [nK]
  | k + 1 => by simp [nK, nK_len n k]
theorem nK_eq (n : Int) : nK n 8 = nonN n := by
  simp only [nK, nonN, lowL, List.replicate_succ, List.replicate_zero, List.set_cons_zero, List.set_cons_succ, List.cons_append, List.nil_append, Nat.reduceAdd]
theorem stream_fn (key : List Int) (n : Int) (ad a b : List Int) (hk : key.length = 32) (hA : Bt a) (hB : Bt b) :
    FnR Tryd.prog G 5 [.agg [.ints .u8 32 key, .int .u64 n, .lstI .u8 ad], .lstI .u8 a, .lstI .u8 b] [] (.bool true) [] := by
  refine FnR.of_walk (m := 137) (n0 := 0) tt_ok Tryd.func5 rfl rfl (by simp) (by simp [nmH]) ?_
  rw [show Tryd.f5.results.toList = [.tmp 6] from rfl]
  refine W.seqK fun K hK => W.regionK tt_ok ?_
  simp only [exOps_nil, exOps_cons, exOp_eq, nx_eq, cur_eq, stepQ, ev, ofV, lk, parT, putT, erA, inB, opt, req, ret, onQ, ap, up, er, AV.isTup, true_and, and_self, Nat.reduceEqDiff, Nat.reduceLT, Nat.reduceAdd, Nat.zero_add, if_true, if_false, reduceCtorEq]
  refine hK _ ?_
  clear hK K
  refine W.seqK fun Kz hKz => ?_
  refine W.seqK fun K hK => W.regionK tt_ok ?_
  simp only [exOps_cons, exOp_eq, exCall_eq, evL, ev, inB, true_and, Nat.reduceLT]
  refine CallK.pure _ _ alive_fn call8 (by simp only [ret, onQ, isTupL, true_and, Bool.false_eq_true, List.append_nil, vw.vwL, AV.free]; all_goals (and_intros <;> first | exact AV.subL_refl _ | omega | rfl | (simp []; done) | (simp; exact AV.subL_refl _) | (simp [AV.subL, AV.sub]; done))) ?_
  simp only [Bool.not_true, exOps_nil, exOps_cons, exOp_eq, nx_eq, cur_eq, stepQ, ev, lk, putT, erA, inB, opt, bnd, req, ret, onQ, ap, unF, true_and, and_self, Nat.reduceEqDiff, Nat.reduceLT, Nat.reduceAdd, if_true, if_false, reduceCtorEq]
  refine hK _ ?_
  clear hK K
  refine W.cond (b := false) (by simp only [ev, lk, Nat.reduceEqDiff, if_true, if_false, reduceCtorEq]) (fun hb => absurd hb (by simp)) (fun _ => W.skip ?_)
  rw [thn_normal]
  refine hKz _ ?_
  refine W.seqK fun Ky hKy => ?_
  by_cases h0 : (1000 : Int) < ad.length
  · refine W.seqK fun K hK => W.regionK tt_ok ?_
    simp only [↓gTF, ↓nTF, decide_true, exOps_nil, exOps_cons, exOp_eq, exCall_eq, nx_eq, cur_eq, evL, stepQ, ev, ofV, lk, putT, erA, inB, opt, bnd, req, ret, onQ, ap, binG, binF, intF, pickF, ldP, ldE, ldC, ldS, Kd.agg, comps, csize, takeI, takeC, dropC, fldF, bltQ, bltV, lenF, and_true, true_and, and_self, or_false, Nat.reduceEqDiff, Nat.reduceLT, Nat.reduceLeDiff, Nat.reduceAdd, Nat.reduceSub, Nat.sub_self, Nat.le_refl, Nat.add_zero, Nat.zero_add, if_true, if_false, Bool.false_eq_true, reduceCtorEq, ne_eq, not_false_eq_true, List.getElem?_cons_zero, List.getElem?_cons_succ, Option.bind_some, Option.map_some, tt_24, tt_26, h0]
    refine hK _ ?_
    clear hK K
    refine W.cond (b := true) (by simp only [ev, lk, Nat.reduceEqDiff, if_true, if_false, reduceCtorEq]) (fun h1 => ?_) (fun h => absurd h (by simp))
    refine W.seqK fun K hK => W.regionK tt_ok ?_
    simp only [exOps_nil, exOps_cons, exOp_eq, nx_eq, cur_eq, stepQ, ev, ofV, putT, erA, inB, opt, ret, onQ, ap, true_and, Nat.reduceEqDiff, Nat.reduceLT, Nat.reduceAdd, if_true, if_false, reduceCtorEq]
    refine hK _ ?_
    clear hK K
    refine W.ret ?_
    simp only [fin_ret, finB, resQ, resV, leL, AV.nmIn, entsIn, lk, opt, bnd, req, ret, onQ, AV.isTup, thn_ret, and_self, Nat.reduceEqDiff, if_true, if_false, reduceCtorEq]
  by_cases h1 : (1000 : Int) < a.length
  · refine W.seqK fun K hK => W.regionK tt_ok ?_
    simp only [↓gFF, ↓gTF, ↓nFF, ↓nTF, decide_true, decide_false, exOps_nil, exOps_cons, exOp_eq, exCall_eq, nx_eq, cur_eq, evL, stepQ, ev, ofV, lk, putT, erA, inB, opt, bnd, req, ret, onQ, ap, binG, binF, intF, pickF, ldP, ldE, ldC, ldS, Kd.agg, comps, csize, takeI, takeC, dropC, fldF, bltQ, bltV, lenF, and_true, true_and, and_self, or_false, Nat.reduceEqDiff, Nat.reduceLT, Nat.reduceLeDiff, Nat.reduceAdd, Nat.reduceSub, Nat.sub_self, Nat.le_refl, Nat.add_zero, Nat.zero_add, if_true, if_false, Bool.false_eq_true, reduceCtorEq, ne_eq, not_false_eq_true, List.getElem?_cons_zero, List.getElem?_cons_succ, Option.bind_some, Option.map_some, tt_24, tt_26, h0, h1]
    refine hK _ ?_
    clear hK K
    refine W.cond (b := true) (by simp only [ev, lk, Nat.reduceEqDiff, if_true, if_false, reduceCtorEq]) (fun h1 => ?_) (fun h => absurd h (by simp))
    refine W.seqK fun K hK => W.regionK tt_ok ?_
    simp only [exOps_nil, exOps_cons, exOp_eq, nx_eq, cur_eq, stepQ, ev, ofV, putT, erA, inB, opt, ret, onQ, ap, true_and, Nat.reduceEqDiff, Nat.reduceLT, Nat.reduceAdd, if_true, if_false, reduceCtorEq]
    refine hK _ ?_
    clear hK K
    refine W.ret ?_
    simp only [fin_ret, finB, resQ, resV, leL, AV.nmIn, entsIn, lk, opt, bnd, req, ret, onQ, AV.isTup, thn_ret, and_self, Nat.reduceEqDiff, if_true, if_false, reduceCtorEq]
  by_cases h2 : (1000 : Int) < b.length
  · refine W.seqK fun K hK => W.regionK tt_ok ?_
    simp only [↓gFF, ↓nFF, decide_true, decide_false, exOps_nil, exOps_cons, exOp_eq, exCall_eq, nx_eq, cur_eq, evL, stepQ, ev, ofV, lk, putT, erA, inB, opt, bnd, req, ret, onQ, ap, binG, binF, intF, pickF, ldP, ldE, ldC, ldS, Kd.agg, comps, csize, takeI, takeC, dropC, fldF, bltQ, bltV, lenF, and_true, true_and, and_self, or_false, Nat.reduceEqDiff, Nat.reduceLT, Nat.reduceLeDiff, Nat.reduceAdd, Nat.reduceSub, Nat.sub_self, Nat.le_refl, Nat.add_zero, Nat.zero_add, if_true, if_false, Bool.false_eq_true, reduceCtorEq, ne_eq, not_false_eq_true, List.getElem?_cons_zero, List.getElem?_cons_succ, Option.bind_some, Option.map_some, tt_24, tt_26, h0, h1, h2]
    refine hK _ ?_
    clear hK K
    refine W.cond (b := true) (by simp only [ev, lk, Nat.reduceEqDiff, if_true, if_false, reduceCtorEq]) (fun h1 => ?_) (fun h => absurd h (by simp))
    refine W.seqK fun K hK => W.regionK tt_ok ?_
    simp only [exOps_nil, exOps_cons, exOp_eq, nx_eq, cur_eq, stepQ, ev, ofV, putT, erA, inB, opt, ret, onQ, ap, true_and, Nat.reduceEqDiff, Nat.reduceLT, Nat.reduceAdd, if_true, if_false, reduceCtorEq]
    refine hK _ ?_
    clear hK K
    refine W.ret ?_
    simp only [fin_ret, finB, resQ, resV, leL, AV.nmIn, entsIn, lk, opt, bnd, req, ret, onQ, AV.isTup, thn_ret, and_self, Nat.reduceEqDiff, if_true, if_false, reduceCtorEq]
  refine W.seqK fun K hK => W.regionK tt_ok ?_
  simp only [↓gFF, ↓nFF, decide_false, exOps_nil, exOps_cons, exOp_eq, exCall_eq, nx_eq, cur_eq, evL, stepQ, ev, ofV, lk, putT, erA, inB, opt, bnd, req, ret, onQ, ap, binG, binF, intF, pickF, ldP, ldE, ldC, ldS, Kd.agg, comps, csize, takeI, takeC, dropC, fldF, bltQ, bltV, lenF, and_true, true_and, and_self, or_false, Nat.reduceEqDiff, Nat.reduceLT, Nat.reduceLeDiff, Nat.reduceAdd, Nat.reduceSub, Nat.sub_self, Nat.le_refl, Nat.add_zero, Nat.zero_add, if_true, if_false, Bool.false_eq_true, reduceCtorEq, ne_eq, not_false_eq_true, List.getElem?_cons_zero, List.getElem?_cons_succ, Option.bind_some, Option.map_some, tt_24, tt_26, h0, h1, h2]
  refine hK _ ?_
  clear hK K
  refine W.cond (b := false) (by simp only [ev, lk, Nat.reduceEqDiff, if_true, if_false, reduceCtorEq]) (fun h => absurd h (by simp)) (fun _ => W.skip ?_)
  rw [thn_normal]
  refine hKy _ ?_
  refine W.seqK fun K hK => W.regionK tt_ok ?_
  simp only [exOps_nil, exOps_cons, exOp_eq, nx_eq, cur_eq, stepQ, putT, erA, inB, opt, ret, onQ, ap, up, er, true_and, Nat.reduceEqDiff, Nat.reduceLT, Nat.reduceAdd, if_false, reduceCtorEq, tt_36]
  refine hK _ ?_
  clear hK K
  refine W.seqK fun Kx hKx => ?_
  refine W.seqK fun K hK => W.regionK tt_ok ?_
  simp only [exOps_nil, exOps_cons, exOp_eq, nx_eq, cur_eq, stepQ, ev, ofV, putT, erA, inB, opt, ret, onQ, ap, true_and, Nat.reduceEqDiff, Nat.reduceLT, Nat.reduceAdd, if_false, reduceCtorEq]
  refine hK _ ?_
  clear hK K
  refine W.blockK ?_
  refine W.loopK (fun k : Nat => k ≤ 8) (fun k => ⟨[(1, .lstI .u8 a), (2, .lstI .u8 b), (3, .ptr 0 0 0 1), (6, .bool false), (7, .ptr 288 0 0 1), (32, .int .i64 (k : Int))], [(288, .obj 36 (.agg [.ints .u8 12 (nK n k)])), (0, .obj 26 (.agg [.ints .u8 32 key, .int .u64 n, .lstI .u8 ad]))], 1024, 137⟩) (fun k => 8 - k) 0 (by simp) (by simp [nK, wk, leL, lk, nmT, nmE, nmH, AV.nmIn, AV.nmInL, Ent.nmIn]) ?_
  intro k hk8 K3 hK3
  by_cases hlt : k < 8
  · have c1 : (k : Int) < 8 := by omega
    have w8 := wrap8k k hlt
    have w4 : IntKind.i64.wrap (4 + (k : Int)) = ((4 + k : Nat) : Int) := by rw [IntKind.wrap_i64]; omega
    have hl := nK_len n k
    refine W.seqK fun K hK => W.regionK tt_ok ?_
    simp only [decide_true, exOps_nil, exOps_cons, exOp_eq, nx_eq, cur_eq, stepQ, ev, ofV, lk, putT, erA, inB, opt, bnd, req, ret, onQ, ap, binG, binF, intF, true_and, and_self, Nat.reduceEqDiff, Nat.reduceLT, Nat.reduceAdd, if_true, if_false, c1]
    refine hK _ ?_
    clear hK K
    refine W.seqK fun K hK => W.cond (b := true) (by simp only [ev, lk, Nat.reduceEqDiff, if_true, if_false]) (fun _ => W.skip ?_) (fun h => absurd h (by simp))
    rw [thn_normal]
    refine hK _ ?_
    clear hK K
    refine W.seqK fun K hK => W.blockK ?_
    refine W.seqK fun K hK => W.regionK tt_ok ?_
    simp only [exOps_nil, exOps_cons, exOp_eq, nx_eq, cur_eq, stepQ, ev, lk, putT, erA, inB, opt, ret, onQ, ap, true_and, Nat.reduceEqDiff, Nat.reduceLT, Nat.reduceAdd, if_true, if_false]
    refine hK _ ?_
    clear hK K
    refine W.region tt_ok ?_
    simp only [exOps_nil, exOps_cons, exOp_eq, nx_eq, cur_eq, stepQ, ev, ofV, lk, putT, erA, inB, opt, bnd, req, ret, onQ, ap, up, er, AV.isTup, AV.isAgg, binG, binF, intF, shiftF, Kd.elem, Kd.isInt, ixA, asI, ldP, ldE, ldC, ldS, Kd.agg, comps, csize, takeI, takeC, dropC, stP, stE, stC, stS, fldF, cvQ, thn_normal, inb_normal, and_true, true_and, and_self, Nat.reduceEqDiff, Nat.reduceLT, Nat.reduceLeDiff, Nat.reduceAdd, Nat.reduceSub, Nat.sub_self, Int.toNat_natCast, Nat.le_refl, Nat.add_zero, Nat.zero_add, if_true, if_false, Bool.false_eq_true, reduceCtorEq, ne_eq, not_false_eq_true, List.getElem?_cons_zero, List.getElem?_cons_succ, Option.bind_some, Option.map_some, tt_5, tt_23, tt_26, tt_36, w4, w8, Int.toNat_natCast]
    refine ⟨by omega, ⟨by omega, by omega⟩, by omega, ?_⟩
    refine hK _ ?_
    refine W.region tt_ok ?_
    simp only [exOps_nil, exOps_cons, exOp_eq, nx_eq, cur_eq, stepQ, ev, ofV, lk, putT, erA, inB, opt, bnd, req, ret, onQ, ap, binG, binF, intF, thn_normal, true_and, and_self, Nat.reduceEqDiff, Nat.reduceLT, Nat.reduceAdd, if_true, if_false, wrap_up k (by omega)]
    refine hK3 _ (k + 1) (by omega) (by omega) ?_
    simp [nK, wk, leL, lk, nmT, nmE, nmH, AV.nmIn, AV.nmInL, Ent.nmIn]
  have hk8' : k = 8 := by omega
  subst hk8'
  have c1 : ¬ (((8 : Nat) : Int) < 8) := by omega
  refine W.seqK fun K hK => W.regionK tt_ok ?_
  simp only [decide_false, exOps_nil, exOps_cons, exOp_eq, nx_eq, cur_eq, stepQ, ev, ofV, lk, putT, erA, inB, opt, bnd, req, ret, onQ, ap, binG, binF, intF, true_and, and_self, Nat.reduceEqDiff, Nat.reduceLT, Nat.reduceAdd, if_true, if_false, c1]
  refine hK _ ?_
  clear hK K
  refine W.seqK fun K hK => W.cond (b := false) (by simp only [ev, lk, Nat.reduceEqDiff, if_true, if_false]) (fun h => absurd h (by simp)) (fun _ => W.exit ?_)
  simp only [thn_normal, thn_exit, inb_exit, if_true]
  refine hKx _ ?_
  rw [nK_eq]
  have hNl := nonN_len n
  have c9 := seal_ok key n ad a hk (by omega) (by omega)
  have c9' := seal_ok key n [] b hk (by simp) (by omega)
  have c13 := Sm.xor_ok key (nonN n) 1 a hk hNl (by omega) (by omega) (by omega)
  have hX := sealN_len key n ad a
  have hY := sealN_len key n [] b
  have hla := xorO_len key (nonN n) 1 a a.length
  have hlb := xorO_len key (nonN n) 1 b b.length
  have hXF : (sealN key n ad a).take a.length = xorO key (nonN n) 1 a a.length := by
    have := (box_parts (xorO key (nonN n) 1 a a.length) (tagN key (nonN n) ad (xorO key (nonN n) 1 a a.length)) (tagN_len _ _ _ _)).1
    rw [← sealN, hX, Nat.add_sub_cancel] at this
    exact this
  have heq : ∀ i, i < a.length → i < b.length → bits .xor .u8 ((sealN key n ad a).getD i 0) ((sealN key n [] b).getD i 0) = bits .xor .u8 (a.getD i 0) (b.getD i 0) := by
    intro i hi1 hi2
    have e1 : (sealN key n ad a).getD i 0 = (xorO key (nonN n) 1 a a.length).getD i 0 := by
      rw [sealN, List.getD_eq_getElem?_getD, List.getElem?_append_left (by omega), List.getD_eq_getElem?_getD]
    have e2 : (sealN key n [] b).getD i 0 = (xorO key (nonN n) 1 b b.length).getD i 0 := by
      rw [sealN, List.getD_eq_getElem?_getD, List.getElem?_append_left (by omega), List.getD_eq_getElem?_getD]
    rw [e1, e2]
    exact Sm.sums_plain hA hB i hi1 hi2
  generalize sealN key n ad a = X at *
  generalize sealN key n [] b = Y at *
  generalize hFF : xorO key (nonN n) 1 a a.length = F at *
  generalize nonN n = N at *
  refine W.seqK fun K hK => W.regionK tt_ok ?_
  simp only [exOps_cons, exOp_eq, exCall_eq, nx_eq, cur_eq, evL, stepQ, ev, lk, putT, erA, inB, opt, bnd, req, ret, onQ, ap, ldP, ldE, ldC, ldS, Kd.agg, comps, csize, takeI, takeC, dropC, fldF, and_true, true_and, and_self, Nat.reduceEqDiff, Nat.reduceLT, Nat.reduceLeDiff, Nat.reduceAdd, Nat.reduceSub, Nat.sub_self, Nat.le_refl, Nat.add_zero, Nat.zero_add, if_true, if_false, Bool.false_eq_true, reduceCtorEq, ne_eq, not_false_eq_true, List.getElem?_cons_zero, List.getElem?_cons_succ, Option.bind_some, Option.map_some, tt_22, tt_23, tt_24, tt_26]
  refine CallK.pure _ _ c9 call9 (by simp only [AV.nmIn, bnd, req, ret, onQ, AV.isTup, isTupL, true_and, and_self, Bool.false_eq_true, List.append_nil, vw.vwL, vw, AV.free, AV.freeL, Bool.or_self]; all_goals (and_intros <;> first | exact AV.subL_refl _ | omega | rfl | (simp []; done) | (simp; exact AV.subL_refl _) | (simp [AV.subL, AV.sub]; done))) ?_
  simp only [exOps_nil, exOps_cons, exOp_eq, nx_eq, cur_eq, stepQ, ev, lk, putT, erA, inB, opt, ret, onQ, ap, true_and, Nat.reduceEqDiff, Nat.reduceLT, Nat.reduceAdd, if_true, if_false, List.getElem?_cons_zero, List.getElem?_cons_succ]
  refine hK _ ?_
  clear hK K
  refine W.seqK fun K hK => W.regionK tt_ok ?_
  simp only [exOps_cons, exOp_eq, exCall_eq, nx_eq, cur_eq, evL, stepQ, ev, ofV, lk, putT, erA, inB, opt, bnd, req, ret, onQ, ap, ldP, ldE, ldC, ldS, Kd.agg, comps, csize, takeI, takeC, dropC, fldF, and_true, true_and, and_self, Nat.reduceEqDiff, Nat.reduceLT, Nat.reduceLeDiff, Nat.reduceAdd, Nat.reduceSub, Nat.sub_self, Nat.le_refl, Nat.add_zero, Nat.zero_add, if_true, if_false, Bool.false_eq_true, reduceCtorEq, ne_eq, not_false_eq_true, List.getElem?_cons_zero, List.getElem?_cons_succ, Option.bind_some, Option.map_some, tt_22, tt_23, tt_26]
  refine CallK.pure _ _ c9' call9 (by simp only [AV.nmIn, bnd, req, ret, onQ, AV.isTup, isTupL, true_and, and_self, Bool.false_eq_true, List.append_nil, vw.vwL, vw, AV.free, AV.freeL, Bool.or_self]; all_goals (and_intros <;> first | exact AV.subL_refl _ | omega | rfl | (simp []; done) | (simp; exact AV.subL_refl _) | (simp [AV.subL, AV.sub]; done))) ?_
  simp only [exOps_nil, exOps_cons, exOp_eq, nx_eq, cur_eq, stepQ, ev, lk, putT, erA, inB, opt, ret, onQ, ap, true_and, Nat.reduceEqDiff, Nat.reduceLT, Nat.reduceAdd, if_true, if_false, List.getElem?_cons_zero, List.getElem?_cons_succ]
  refine hK _ ?_
  clear hK K
  refine W.seqK fun K hK => W.regionK tt_ok ?_
  simp only [exOps_cons, exOp_eq, exCall_eq, nx_eq, cur_eq, evL, stepQ, ev, ofV, lk, putT, erA, inB, opt, bnd, req, ret, onQ, ap, ldP, ldE, ldC, ldS, Kd.agg, comps, csize, takeI, takeC, dropC, fldF, true_and, and_self, Nat.reduceEqDiff, Nat.reduceLT, Nat.reduceLeDiff, Nat.reduceAdd, Nat.reduceSub, Nat.sub_self, Nat.le_refl, Nat.add_zero, if_true, if_false, reduceCtorEq, ne_eq, not_false_eq_true, List.getElem?_cons_zero, Option.bind_some, Option.map_some, tt_22, tt_26, tt_36]
  refine CallK.pure _ _ c13 call13 (by simp only [AV.nmIn, bnd, req, ret, onQ, AV.isTup, isTupL, true_and, and_self, Bool.false_eq_true, List.append_nil, vw.vwL, vw, AV.free, AV.freeL, Bool.or_self]; all_goals (and_intros <;> first | exact AV.subL_refl _ | omega | rfl | (simp []; done) | (simp; exact AV.subL_refl _) | (simp [AV.subL, AV.sub]; done))) ?_
  simp only [exOps_nil, exOps_cons, exOp_eq, nx_eq, cur_eq, stepQ, ev, lk, putT, erA, inB, opt, ret, onQ, ap, true_and, Nat.reduceEqDiff, Nat.reduceLT, Nat.reduceAdd, if_true, if_false, List.getElem?_cons_zero, List.getElem?_cons_succ]
  refine hK _ ?_
  clear hK K
  have hss : ((strOf F).toList == (strOf F).toList) = true := beq_self_eq_true _
  have hwa : IntKind.i64.wrap ((a.length : Int) + 16) = ((a.length + 16 : Nat) : Int) := by rw [IntKind.wrap_i64]; omega
  have hwb : IntKind.i64.wrap ((b.length : Int) + 16) = ((b.length + 16 : Nat) : Int) := by rw [IntKind.wrap_i64]; omega
  refine W.seqK fun Kw hKw => ?_
  refine W.seqK fun K hK => W.drawK [⟨0, false, []⟩, ⟨0, false, [0]⟩, ⟨0, false, [0, 1]⟩, ⟨0, false, [0, 1, 2]⟩, ⟨0, false, [0, 1, 2, 3]⟩, ⟨0, false, [0, 1, 2, 3, 4]⟩, ⟨0, false, [0, 1, 2, 3, 4, 5]⟩, ⟨0, false, [0, 1, 2, 3, 4, 5, 6]⟩, ⟨0, false, [0, 1, 2, 3, 4, 5, 6, 7]⟩, ⟨0, false, [0, 1, 2, 3, 4, 5, 6, 7, 8]⟩, ⟨0, false, [0, 1, 2, 3, 4, 5, 6, 7, 8, 9]⟩, ⟨0, false, [0, 1, 2, 3, 4, 5, 6, 7, 8, 9, 10]⟩, ⟨0, false, [0, 1, 2, 3, 4, 5, 6, 7, 8, 9, 10, 11]⟩, ⟨0, false, [0, 1, 2, 3, 4, 5, 6, 7, 8, 9, 10]⟩, ⟨0, false, [0, 1, 2, 3, 4, 5, 6, 7, 8, 9, 10, 13]⟩, ⟨0, false, [0, 1, 2, 3, 4, 5, 6, 7, 8, 9, 10, 13, 14]⟩, ⟨0, false, [0, 1, 2, 3, 4, 5, 6, 7, 8, 9, 10, 11, 12, 13, 14, 15]⟩, ⟨0, false, [0, 1, 2, 3, 4, 5, 6, 7, 8, 9, 10, 11, 12, 13, 14, 15, 16]⟩, ⟨0, false, [0, 1, 2, 3, 4, 5, 6, 7, 8, 9, 10, 11, 12, 13, 14, 15, 16, 17]⟩, ⟨0, false, [0, 1, 2, 3, 4, 5, 6, 7, 8, 9, 10, 11, 12, 13, 14, 15, 16, 17, 18]⟩, ⟨0, false, [0, 1, 2, 3, 4, 5, 6, 7, 8, 9, 10, 11, 12, 13, 14, 15, 16, 17, 18]⟩, ⟨0, false, [0, 1, 2, 3, 4, 5, 6, 7, 8, 9, 10, 11, 12, 13, 14, 15, 16, 17, 18, 20]⟩, ⟨0, false, [0, 1, 2, 3, 4, 5, 6, 7, 8, 9, 10, 11, 12, 13, 14, 15, 16, 17, 18, 19, 20, 21]⟩, ⟨0, false, [0, 1, 2, 3, 4, 5, 6, 7, 8, 9, 10, 11, 12, 13, 14, 15, 16, 17, 18, 19, 20, 21, 22]⟩, ⟨0, false, [0, 1, 2, 3, 4, 5, 6, 7, 8, 9, 10, 11, 12, 13, 14, 15, 16, 17, 18]⟩, ⟨0, false, [0, 1, 2, 3, 4, 5, 6, 7, 8, 9, 10, 11, 12, 13, 14, 15, 16, 17, 18, 24]⟩, ⟨0, false, [0, 1, 2, 3, 4, 5, 6, 7, 8, 9, 10, 11, 12, 13, 14, 15, 16, 17, 18, 19, 20, 21, 22, 23, 24, 25]⟩, ⟨0, false, [0, 1, 2, 3, 4, 5, 6, 7, 8, 9, 10, 11, 12, 13, 14, 15, 16, 17, 18, 19, 20, 21, 22, 23, 24, 25, 26]⟩, ⟨0, false, [0, 1, 2, 3, 4, 5, 6, 7, 8, 9, 10, 11, 12, 13, 14, 15, 16, 17, 18, 19, 20, 21, 22, 23, 24, 25, 26, 27]⟩, ⟨0, false, [0, 1, 2, 3, 4, 5, 6, 7, 8, 9, 10, 11, 12, 13, 14, 15, 16, 17, 18, 19, 20, 21, 22, 23, 24, 25, 26, 27, 28]⟩, ⟨0, false, [0, 1, 2, 3, 4, 5, 6, 7, 8, 9, 10, 11, 12, 13, 14, 15, 16, 17, 18, 19, 20, 21, 22, 23, 24, 25, 26, 27, 28, 29]⟩, ⟨0, false, [0, 1, 2, 3, 4, 5, 6, 7, 8, 9, 10, 11, 12, 13, 14, 15, 16, 17, 18, 19, 20, 21, 22, 23, 24, 25, 26, 27, 28]⟩, ⟨0, false, [0, 1, 2, 3, 4, 5, 6, 7, 8, 9, 10, 11, 12, 13, 14, 15, 16, 17, 18, 19, 20, 21, 22, 23, 24, 25, 26, 27, 28, 31]⟩, ⟨0, false, [0, 1, 2, 3, 4, 5, 6, 7, 8, 9, 10, 11, 12, 13, 14, 15, 16, 17, 18, 19, 20, 21, 22, 23, 24, 25, 26, 27, 28, 31, 32]⟩, ⟨0, false, [0, 1, 2, 3, 4, 5, 6, 7, 8, 9, 10, 11, 12, 13, 14, 15, 16, 17, 18, 19, 20, 21, 22, 23, 24, 25, 26, 27, 28, 29, 30, 31, 32, 33]⟩, ⟨0, false, [0, 1, 2, 3, 4, 5, 6, 7, 8, 9, 10, 11, 12, 13, 14, 15, 16, 17, 18, 19, 20, 21, 22, 23, 24, 25, 26, 27, 28, 29, 30, 31, 32, 33, 34]⟩] mix tt_ok (by kernel_rfl) ?_
  simp only [Bool.not_true, ↓gFF, ↓nFF, exOp_eq, exCall_eq, exD_nil, exD_cons, nxD_eq, cur_eq, gdV, flI, ownB, evL, stepQ, ev, ofV, lk, putT, erA, inB, opt, bnd, req, ret, onQ, ap, binG, binF, intF, strF, pickF, bltQ, bltV, lenF, slF, bd, bds, cvQ, s2bQ, srcQ, rowOf, Row.sz, and_true, true_and, and_self, or_false, Nat.reduceEqDiff, Nat.reduceLT, Nat.reduceAdd, Int.toNat_natCast, if_true, if_false, reduceCtorEq, ne_eq, not_false_eq_true, forall_const, List.getElem?_cons_zero, List.getElem?_cons_succ, Option.bind_some, Option.map_some, tt_5, tt_9, tt_24, hX, hY, hwa, hwb, bne_self_eq_false, hXF, hss, List.drop_zero, Int.toNat_natCast]
  refine ⟨⟨by omega, by omega⟩, ?_⟩
  refine hK _ ?_
  clear hK K
  refine W.cond (b := false) (by simp only [ev, lk, Nat.reduceEqDiff, if_true, if_false]) (fun h => absurd h (by simp)) (fun _ => W.skip ?_)
  rw [thn_normal]
  refine hKw _ ?_
  have hmin : (if (b.length : Int) < (a.length : Int) then (b.length : Int) else (a.length : Int)) = ((min a.length b.length : Nat) : Int) := by
    split <;> omega
  refine W.seqK fun Kv hKv => ?_
  refine W.seqK fun K hK => W.regionK tt_ok ?_
  simp only [exOps_nil, exOps_cons, exOp_eq, exCall_eq, nx_eq, cur_eq, evL, stepQ, ev, ofV, lk, putT, erA, inB, opt, bnd, req, ret, onQ, ap, bltQ, bltV, lenF, true_and, and_self, or_false, Nat.reduceEqDiff, Nat.reduceLT, Nat.reduceAdd, if_true, if_false, List.getElem?_cons_zero, Option.bind_some, Option.map_some, tt_24, hmin]
  refine hK _ ?_
  clear hK K
  refine W.blockK ?_
  refine W.loopK (fun i : Nat => i ≤ min a.length b.length) (fun i => ⟨[(1, .lstI .u8 a), (2, .lstI .u8 b), (6, .bool false), (9, .lstI .u8 X), (11, .lstI .u8 Y), (113, .int .i64 ((min a.length b.length : Nat) : Int)), (114, .int .i64 (i : Int))], [], 4096, 137⟩) (fun i => min a.length b.length - i) 0 (by simp) (by simp [wk, leL, lk, nmT, nmE, nmH, AV.nmIn]) ?_
  intro i hi K3 hK3
  refine W.seqK fun K hK => W.regionK tt_ok ?_
  simp only [exOps_nil, exOps_cons, exOp_eq, nx_eq, cur_eq, stepQ, ev, lk, putT, erA, inB, opt, bnd, req, ret, onQ, ap, binG, binF, intF, true_and, and_self, Nat.reduceEqDiff, Nat.reduceLT, Nat.reduceAdd, if_true, if_false]
  refine hK _ ?_
  clear hK K
  refine W.seqK fun K hK => W.cond (b := decide ((i : Int) < ((min a.length b.length : Nat) : Int))) (by simp only [ev, lk, Nat.reduceEqDiff, if_true, if_false]) (fun hb => W.skip ?_) (fun hb => W.exit ?_)
  · rw [thn_normal]
    have hlt : i < min a.length b.length := by have := of_decide_eq_true hb; omega
    have heq := heq i (by omega) (by omega)
    refine hK _ ?_
    clear hK K
    refine W.seqK fun K hK => W.blockK ?_
    refine W.seqK fun K hK => W.regionK tt_ok ?_
    simp only [exOps_nil, exOps_cons, exOp_eq, nx_eq, cur_eq, stepQ, ev, lk, putT, erA, inB, opt, ret, onQ, ap, true_and, Nat.reduceEqDiff, Nat.reduceLT, Nat.reduceAdd, if_true, if_false]
    refine hK _ ?_
    clear hK K
    refine W.seqK fun K hK => W.drawK [⟨0, false, []⟩, ⟨0, false, []⟩, ⟨0, false, [0, 1]⟩, ⟨0, false, [0, 1, 2]⟩, ⟨0, false, []⟩, ⟨0, false, []⟩, ⟨0, false, [4, 5]⟩, ⟨0, false, [4, 5, 6]⟩, ⟨0, false, [0, 1, 2, 3, 4, 5, 6, 7]⟩, ⟨0, false, []⟩, ⟨0, false, []⟩, ⟨0, false, [9, 10]⟩, ⟨0, false, [9, 10, 11]⟩, ⟨0, false, []⟩, ⟨0, false, []⟩, ⟨0, false, [13, 14]⟩, ⟨0, false, [13, 14, 15]⟩, ⟨0, false, [9, 10, 11, 12, 13, 14, 15, 16]⟩, ⟨0, false, [0, 1, 2, 3, 4, 5, 6, 7, 8, 9, 10, 11, 12, 13, 14, 15, 16, 17]⟩] mix tt_ok (by kernel_rfl) ?_
    simp only [exOp_eq, exD_nil, exD_cons, nxD_eq, cur_eq, flI, ownB, stepQ, ev, lk, putT, erA, inB, opt, bnd, req, ret, onQ, ap, binG, binF, intF, Kd.elem, ixA, asI, ldP, ldC, ldS, Kd.agg, comps, csize, takeI, takeC, dropC, and_true, true_and, and_self, Nat.reduceEqDiff, Nat.reduceLT, Nat.reduceLeDiff, Nat.reduceAdd, Nat.reduceSub, Nat.sub_self, Int.toNat_natCast, Nat.le_refl, if_true, if_false, Bool.false_eq_true, reduceCtorEq, Option.bind_some, Option.map_some, tt_5, tt_24, heq, bne_self_eq_false]
    repeat (refine ⟨by omega, ?_⟩)
    refine hK _ ?_
    clear hK K
    refine W.cond (b := false) (by simp only [ev, lk, Nat.reduceEqDiff, if_true, if_false]) (fun h => absurd h (by simp)) (fun _ => W.skip ?_)
    simp only [thn_normal, inb_normal]
    refine hK _ ?_
    clear hK K
    refine W.region tt_ok ?_
    simp only [exOps_nil, exOps_cons, exOp_eq, nx_eq, cur_eq, stepQ, ev, ofV, lk, putT, erA, inB, opt, bnd, req, ret, onQ, ap, binG, binF, intF, thn_normal, true_and, and_self, Nat.reduceEqDiff, Nat.reduceLT, Nat.reduceAdd, if_true, if_false, wrap_up i (by omega)]
    refine hK3 _ (i + 1) (by omega) (by omega) ?_
    simp [wk, leL, lk, nmT, nmE, nmH, AV.nmIn]
  · simp only [thn_normal, thn_exit, inb_exit, if_true]
    clear hK K
    refine hKv _ ?_
    refine W.seqK fun K hK => W.regionK tt_ok ?_
    simp only [exOps_nil, exOps_cons, exOp_eq, nx_eq, cur_eq, stepQ, ev, ofV, putT, erA, inB, opt, ret, onQ, ap, true_and, Nat.reduceEqDiff, Nat.reduceLT, Nat.reduceAdd, if_true, if_false]
    refine hK _ ?_
    clear hK K
    refine W.ret ?_
    simp only [fin_ret, finB, resQ, resV, leL, AV.nmIn, entsIn, lk, opt, bnd, req, ret, onQ, AV.isTup, and_self, Nat.reduceEqDiff, if_true, if_false]
end Go.Proofs.YtakgcmponelbeaaDoor
