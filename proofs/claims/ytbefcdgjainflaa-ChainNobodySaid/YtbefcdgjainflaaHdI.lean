/- Chains: what the document fixes. (printed by genHI.py) -/
import Derived.Test.YtbefcdgjainflaaHdH
-- TT 3 4 5 9 23 25 28 29 30 36 39 50 53 54 55 56 58 82 94
-- SIMP beq_self_eq_true bne_self_eq_false
set_option linter.unusedVariables false
set_option linter.unusedSectionVars false
set_option linter.unusedSimpArgs false
namespace Go.Proofs.Ytbefcdgjainflaa
open Sx
variable [Inhabited Tabs]
set_option maxRecDepth 100000
set_option maxHeartbeats 4000000
theorem rep_len (n : Nat) (z : Int) : (List.take n (List.drop 0 (List.take n (List.replicate n z)))).length = n := by simp
def alI : Nat → St
  | 0 => ⟨[(14, .sl 6 1 0 2), (15, .int .i64 2), (16, .int .i64 0)], [(6, .vec 28 (.avs 1 [.ifc 53 (.agg []), .ifc 55 (.agg [.ptr 0 0 0 1])])), (0, .obj 58 (.agg [.mp 1, .mp 2, .nils])), (1, .mset (.strs [])), (2, .mset (.strs []))], 64, 99⟩
  | 1 => ⟨[(14, .sl 6 1 0 2), (15, .int .i64 2), (16, .int .i64 1)], [(6, .vec 28 (.avs 1 [.ifc 53 (.agg []), .ifc 55 (.agg [.ptr 0 0 0 1])])), (0, .obj 58 (.agg [.mp 1, .mp 2, .nils])), (1, .mset (.strs [])), (2, .mset (.strs []))], 64, 99⟩
  | _ => ⟨[(14, .sl 6 1 0 2), (15, .int .i64 2), (16, .int .i64 2)], [], 64, 99⟩
theorem alive_fn : FnR Try.prog G 9 [] [] (.bool true) [] := by
  have cb := (((both_fn.rename 80 33).rename 49 34).rename 50 35).rename 51 36
  simp [reV, AV.map, AV.mapL, enMap, Ent.map, Row.map, swp] at cb
  refine FnR.of_walk (m := 99) (n0 := 16) tt_ok Try.func9 rfl rfl (by simp) (by simp [nmH]) ?_
  rw [show Try.f9.results.toList = [.tmp 0] from rfl]
  refine W.seqK fun K hK => W.regionK tt_ok ?_
  simp only [exOps_nil, exOps_cons, exOp_eq, nx_eq, cur_eq, stepQ, ev, ofV, parT, putT, erA, inB, opt, ret, onQ, ap, true_and, Nat.reduceLT, Nat.reduceAdd]
  refine hK _ ?_
  clear hK K
  refine W.seqK fun Ky hKy => ?_
  refine W.seqK fun K hK => W.regionK tt_ok ?_
  simp only [exOps_cons, exOp_eq, exCall_eq, evL, ev, inB, true_and, Nat.reduceLT]
  refine CallK.with [] [(33, .vec 28 (.avs 1 [.ifc 53 (.agg []), .ifc 55 (.agg [.ptr 34 0 0 1])])), (34, .obj 58 (.agg [.mp 35, .mp 36, .nils])), (35, .mset (.strs [])), (36, .mset (.strs []))] _ _ cb call10 (by simp only [ret, onQ, isTupL, true_and, Bool.false_eq_true, List.append_nil, vw.vwL, AV.free]; all_goals (and_intros <;> first | exact AV.subL_refl _ | omega | (simp [entsFree, Ent.free, Row.free]; done) | rfl | (simp [AV.subL_refl]; done))) (by simp [leL]) (by intro n hn; first | (left; revert hn; simp [Nm, lk]; done) | (right; revert hn; simp only [Nm, lk]; split <;> simp <;> omega) | (by_cases h1 : Nm [] n; exact .inl h1; right; revert hn h1; simp only [Nm, lk]; split <;> (try split) <;> (try split) <;> (try split) <;> (try simp) <;> (try omega))) (by simp [entsIn]) ?_
  simp only [callDel, exOps_nil, exOps_cons, exOp_eq, exCall_eq, nx_eq, cur_eq, evL, stepQ, ev, ofV, lk, putT, erA, inB, opt, bnd, req, ret, onQ, ap, up, er, bltQ, bltV, lenF, true_and, and_self, or_false, Nat.reduceEqDiff, Nat.reduceLT, Nat.reduceAdd, if_true, if_false, reduceCtorEq, List.getElem?_cons_zero, Option.bind_some, Option.map_some, List.nil_append, List.cons_append, tt_25, List.map_cons, List.map_nil, List.reverse_cons, List.reverse_nil]
  refine hK _ ?_
  clear hK K
  refine W.swap 6 33 (by simp [Nm, lk]) ?_
  refine W.swap 0 34 (by simp [Nm, lk, St.swap]) ?_
  refine W.swap 1 35 (by simp [Nm, lk, St.swap]) ?_
  refine W.swap 2 36 (by simp [Nm, lk, St.swap]) ?_
  simp [St.swap, tmMap, enMap, swp, AV.map, AV.mapL, Ent.map, Row.map]
  refine W.blockK ?_
  refine W.loopK (fun i : Nat => i ≤ 2) alI (fun i => 2 - i) 0 (by simp) (by simp [alI, wk, leL, lk, nmT, nmE, nmH, AV.nmIn, AV.nmInL, Ent.nmIn, Row.nmIn]) ?_
  intro i hi K3 hK3
  match i, hi with
  | 0, _ =>
    have l1 : (0 : Int) < 2 := by decide
    simp only [alI]
    refine W.seqK fun K hK => W.regionK tt_ok ?_
    simp only [decide_true, exOps_nil, exOps_cons, exOp_eq, nx_eq, cur_eq, stepQ, ev, lk, putT, erA, inB, opt, bnd, req, ret, onQ, ap, binI, binG, binF, intF, true_and, and_self, Nat.reduceEqDiff, Nat.reduceLT, Nat.reduceAdd, if_true, if_false, l1]
    refine hK _ ?_
    clear hK K
    refine W.seqK fun K hK => W.cond (b := true) (by simp only [ev, lk, Nat.reduceEqDiff, if_true, if_false]) (fun _ => W.skip ?_) (fun h => absurd h (by simp))
    rw [thn_normal]
    refine hK _ ?_
    clear hK K
    refine W.seqK fun K hK => W.blockK ?_
    refine W.seqK fun K hK => W.regionK tt_ok ?_
    simp only [exOps_nil, exOps_cons, exOp_eq, nx_eq, cur_eq, stepQ, ev, lk, putT, erA, inB, opt, bnd, req, ret, onQ, ap, Kd.elem, ixA, asI, ldP, ldE, ldC, ldS, Kd.agg, comps, csize, takeI, takeC, dropC, and_true, true_and, and_self, Nat.reduceEqDiff, Nat.reduceLT, Nat.reduceLeDiff, Nat.reduceAdd, Nat.reduceSub, Int.reduceLE, Nat.sub_self, Nat.le_refl, Nat.add_zero, if_true, if_false, Bool.false_eq_true, reduceCtorEq, Option.bind_some, Option.map_some, tt_25, tt_28, List.getD_cons_zero, Int.toNat_zero]
    refine ⟨by decide, by simp, ?_⟩
    refine hK _ ?_
    clear hK K
    refine W.seqK fun Kx hKx => ?_
    refine W.seqK fun K hK => W.regionK tt_ok ?_
    simp only [exOps_nil, exOps_cons, exOp_eq, nx_eq, cur_eq, stepQ, ev, ofV, lk, putT, erA, inB, opt, bnd, req, ret, onQ, ap, binI, binG, eqOp, true_and, and_self, Nat.reduceEqDiff, Nat.reduceLT, Nat.reduceAdd, if_true, if_false, tt_28]
    refine hK _ ?_
    clear hK K
    refine W.cond (b := false) (by simp only [ev, lk, Nat.reduceEqDiff, if_true, if_false]) (fun h => absurd h (by simp)) (fun _ => W.skip ?_)
    simp only [thn_normal]
    refine hKx _ ?_
    refine W.seqK fun K hK => W.regionK tt_ok ?_
    simp only [exOps_nil, exOps_cons, exOp_eq, nx_eq, cur_eq, stepQ, ev, ofV, lk, putT, erA, inB, opt, bnd, req, ret, onQ, ap, up, er, intsOf, cvQ, s2bQ, srcQ, Row.len, Row.sz, Row.take, Row.drop, Ent.row, mkQ, zeroCs, cellsRow, and_true, true_and, and_self, Nat.reduceEqDiff, Nat.reduceLT, Nat.reduceAdd, Int.reduceLE, Int.reduceToNat, Nat.zero_add, if_true, if_false, reduceCtorEq, ne_eq, not_false_eq_true, forall_const, Option.map_some, List.append_nil, tt_5, tt_9, tt_39]
    have hL := rep_len 32 0
    generalize hxs : List.take 32 (List.drop 0 (List.take 32 (List.replicate 32 (0 : Int)))) = xs at *
    refine ⟨⟨by decide, List.length_replicate ..⟩, by rw [List.length_take, List.length_replicate]; exact Nat.le_refl _, ?_⟩
    refine hK _ ?_
    clear hK K
    have hk : (strOf xs).size = 32 := by rw [strOf_size]; exact hL
    generalize strOf xs = kz at *
    have c12 := rnext_ok kz 0 (by omega) (by omega) hk
    have ck := rkeys_ok kz sNext 2 hk (by decide) (by omega) (by omega)
    have c11 := rskip_ok kz 0 2 2 rfl (by omega) (by omega) (by omega) (by omega) hk
    have cf := rskip_far kz 0 21 (by omega) (by omega) (by omega) (by omega)
    rw [show kL (keE kz sNext 2) 2 = [rcK kz 1, rcM kz 0] from rfl] at ck
    rw [show strOf (part (keE kz sNext 2) 0) = rcK kz 1 from rfl, show strOf (part (keE kz sNext 2) 1) = rcM kz 0 from rfl] at c12
    rw [show rcL kz 2 = [rcM kz 0, rcM kz 1] from rfl] at c11
    generalize rcK kz 1 = k1 at *
    generalize rcK kz 2 = k2 at *
    generalize rcM kz 0 = m0 at *
    generalize rcM kz 1 = m1 at *
    simp only [cV, Int.zero_add] at c12 c11 cf
    have g0 : List.getD [k1, m0] 0 ByteArray.empty = k1 := rfl
    have g1 : List.getD [k1, m0] 1 ByteArray.empty = m0 := rfl
    have g2 : List.getD [m0, m1] 0 ByteArray.empty = m0 := rfl
    have q1 : (([k1, m0] : List ByteArray).length : Int) = 2 := rfl
    have q2 : (([m0, m1] : List ByteArray).length : Int) = 2 := rfl
    have hsx : sNext = { data := #[110, 101, 120, 116] } := rfl
    rw [hsx] at ck
    refine W.seqK fun K hK => W.regionK tt_ok ?_
    simp only [exOps_cons, exOp_eq, exCall_eq, nx_eq, cur_eq, evL, evP, stepQ, ev, lk, putT, erA, inB, opt, bnd, req, ret, onQ, ap, AV.isTup, AV.isAgg, Kd.agg, comps, szL, csize, takeI, takeC, dropC, stC, stS, bldF, bldS, and_true, true_and, and_self, and_false, Nat.reduceEqDiff, Nat.reduceLT, Nat.reduceLeDiff, Nat.reduceAdd, Nat.reduceSub, Nat.sub_self, Nat.le_refl, Nat.add_zero, Nat.zero_add, if_true, if_false, Bool.false_eq_true, reduceCtorEq, List.getElem?_cons_zero, Option.bind_some, Option.map_some, List.nil_append, List.cons_append, tt_9, tt_23]
    refine ⟨by rfl, ?_⟩
    refine CallK.pure _ _ c12 call12 (by simp only [AV.nmIn, bnd, req, ret, onQ, AV.isTup, isTupL, true_and, and_self, Bool.false_eq_true, List.append_nil, vw.vwL, vw, AV.free, AV.freeL, Bool.or_self]; all_goals (and_intros <;> first | exact AV.subL_refl _ | omega | (simp [AV.sub]; done) | rfl | (simp [AV.subL_refl]; done) | (simp; exact AV.subL_refl _))) ?_
    simp only [exOps_nil, exOps_cons, exOp_eq, nx_eq, cur_eq, stepQ, ev, lk, putT, erA, inB, opt, bnd, req, ret, onQ, ap, up, er, AV.isTup, AV.isAgg, Kd.agg, comps, szL, csize, takeI, takeC, dropC, stP, stE, stC, stS, and_true, true_and, and_self, Nat.reduceEqDiff, Nat.reduceLT, Nat.reduceLeDiff, Nat.reduceAdd, Nat.reduceSub, Nat.sub_self, Nat.le_refl, Nat.add_zero, Nat.zero_add, if_true, if_false, reduceCtorEq, List.getElem?_cons_zero, List.getElem?_cons_succ, Option.bind_some, Option.map_some, List.append_nil, List.nil_append, tt_23]
    refine hK _ ?_
    clear hK K
    refine W.seqK fun K hK => W.regionK tt_ok ?_
    simp only [exOps_cons, exOp_eq, exCall_eq, nx_eq, cur_eq, evL, stepQ, ev, ofV, lk, putT, erA, inB, opt, ret, onQ, ap, true_and, Nat.reduceEqDiff, Nat.reduceLT, Nat.reduceAdd, if_true, if_false, Option.bind_some, Option.map_some]
    refine CallM.mk _ _ (re_keys) ?_
    refine CallK.pure _ _ ck call38 (by simp only [AV.nmIn, bnd, req, ret, onQ, AV.isTup, isTupL, and_true, true_and, and_self, Bool.false_eq_true, not_false_eq_true, imp_false, List.append_nil, vw.vwL, vw, AV.free, Bool.or_self]; all_goals (and_intros <;> first | exact AV.subL_refl _ | omega | (simp [AV.sub]; done) | rfl | (simp [AV.subL_refl]; done) | (simp; exact AV.subL_refl _))) ?_
    simp only [exOps_nil, exOps_cons, exOp_eq, nx_eq, cur_eq, stepQ, ev, lk, putT, erA, inB, opt, ret, onQ, ap, true_and, Nat.reduceEqDiff, Nat.reduceLT, Nat.reduceAdd, if_true, if_false]
    refine hK _ ?_
    clear hK K
    refine W.seqK fun K hK => W.regionK tt_ok ?_
    simp only [exOps_cons, exOp_eq, exCall_eq, nx_eq, cur_eq, evL, evP, stepQ, ev, ofV, lk, putT, erA, inB, opt, bnd, req, ret, onQ, ap, AV.isTup, AV.isAgg, Kd.agg, comps, szL, csize, takeI, takeC, dropC, stC, stS, bldF, bldS, and_true, true_and, and_self, and_false, Nat.reduceEqDiff, Nat.reduceLT, Nat.reduceLeDiff, Nat.reduceAdd, Nat.reduceSub, Nat.sub_self, Nat.le_refl, Nat.add_zero, Nat.zero_add, if_true, if_false, Bool.false_eq_true, reduceCtorEq, List.getElem?_cons_zero, Option.bind_some, Option.map_some, List.nil_append, List.cons_append, tt_9, tt_23]
    refine ⟨by rfl, ?_⟩
    refine CallK.pure _ _ c11 call11 (by simp only [AV.nmIn, bnd, req, ret, onQ, AV.isTup, isTupL, true_and, and_self, Bool.false_eq_true, List.append_nil, vw.vwL, vw, AV.free, AV.freeL, Bool.or_self]; all_goals (and_intros <;> first | exact AV.subL_refl _ | omega | (simp [AV.sub]; done) | rfl | (simp [AV.subL_refl]; done) | (simp; exact AV.subL_refl _))) ?_
    simp only [exOps_nil, exOps_cons, exOp_eq, nx_eq, cur_eq, stepQ, ev, lk, putT, erA, inB, opt, bnd, req, ret, onQ, ap, up, er, AV.isTup, AV.isAgg, Kd.agg, comps, szL, csize, takeI, takeC, dropC, stP, stE, stC, stS, and_true, true_and, and_self, Nat.reduceEqDiff, Nat.reduceLT, Nat.reduceLeDiff, Nat.reduceAdd, Nat.reduceSub, Nat.sub_self, Nat.le_refl, Nat.add_zero, Nat.zero_add, if_true, if_false, reduceCtorEq, List.getElem?_cons_zero, List.getElem?_cons_succ, Option.bind_some, Option.map_some, List.append_nil, List.nil_append, tt_23]
    refine hK _ ?_
    clear hK K
    refine W.seqK fun K hK => W.regionK tt_ok ?_
    simp only [exOps_cons, exOp_eq, exCall_eq, nx_eq, cur_eq, evL, evP, stepQ, ev, ofV, lk, putT, erA, inB, opt, bnd, req, ret, onQ, ap, AV.isTup, AV.isAgg, Kd.agg, comps, szL, csize, takeI, takeC, dropC, stC, stS, bldF, bldS, and_true, true_and, and_self, and_false, Nat.reduceEqDiff, Nat.reduceLT, Nat.reduceLeDiff, Nat.reduceAdd, Nat.reduceSub, Nat.sub_self, Nat.le_refl, Nat.add_zero, Nat.zero_add, if_true, if_false, Bool.false_eq_true, reduceCtorEq, List.getElem?_cons_zero, Option.bind_some, Option.map_some, List.nil_append, List.cons_append, tt_9, tt_23]
    refine ⟨by rfl, ?_⟩
    refine CallK.pure _ _ cf call11 (by simp only [AV.nmIn, bnd, req, ret, onQ, AV.isTup, isTupL, true_and, and_self, Bool.false_eq_true, List.append_nil, vw.vwL, vw, AV.free, AV.freeL, Bool.or_self]; all_goals (and_intros <;> first | exact AV.subL_refl _ | omega | (simp [AV.sub]; done) | rfl | (simp [AV.subL_refl]; done) | (simp; exact AV.subL_refl _))) ?_
    simp only [exOps_nil, exOps_cons, exOp_eq, nx_eq, cur_eq, stepQ, ev, lk, putT, erA, inB, opt, bnd, req, ret, onQ, ap, up, er, AV.isTup, AV.isAgg, Kd.agg, comps, szL, csize, takeI, takeC, dropC, stP, stE, stC, stS, and_true, true_and, and_self, Nat.reduceEqDiff, Nat.reduceLT, Nat.reduceLeDiff, Nat.reduceAdd, Nat.reduceSub, Nat.sub_self, Nat.le_refl, Nat.add_zero, Nat.zero_add, if_true, if_false, reduceCtorEq, List.getElem?_cons_zero, List.getElem?_cons_succ, Option.bind_some, Option.map_some, List.append_nil, List.nil_append, tt_23]
    refine hK _ ?_
    clear hK K
    refine W.seqK fun K hK => W.drawK [⟨0, false, [], false⟩, ⟨0, false, [0], false⟩, ⟨0, false, [0, 1], false⟩, ⟨0, false, [0, 1, 2], false⟩, ⟨0, false, [0, 1, 2, 3], false⟩, ⟨0, false, [0, 1, 2, 3, 4], false⟩, ⟨0, false, [0, 1, 2, 3], false⟩, ⟨0, false, [0, 1, 2, 3, 6], false⟩, ⟨0, false, [0, 1, 2, 3, 6, 7], false⟩, ⟨0, false, [0, 1, 2, 3, 4, 5, 6, 7, 8], false⟩, ⟨0, false, [0, 1, 2, 3, 4, 5, 6, 7, 8, 9], false⟩, ⟨0, false, [0, 1, 2, 3, 4, 5, 6, 7, 8, 9, 10], false⟩, ⟨0, false, [0, 1, 2, 3, 4, 5, 6, 7, 8, 9, 10, 11], false⟩, ⟨0, false, [0, 1, 2, 3, 4, 5, 6, 7, 8, 9, 10, 11, 12], false⟩, ⟨0, false, [0, 1, 2, 3, 4, 5, 6, 7, 8, 9, 10, 11, 12, 13], false⟩, ⟨0, false, [0, 1, 2, 3, 4, 5, 6, 7, 8, 9, 10, 11, 12, 13, 14], false⟩, ⟨0, false, [0, 1, 2, 3, 4, 5, 6, 7, 8, 9, 10, 11, 12, 13, 14, 15], false⟩, ⟨0, false, [0, 1, 2, 3, 4, 5, 6, 7, 8, 9, 10, 11, 12, 13, 14, 15, 16], false⟩, ⟨0, false, [0, 1, 2, 3, 4, 5, 6, 7, 8, 9, 10, 11, 12, 13, 14, 15, 16], false⟩, ⟨0, false, [0, 1, 2, 3, 4, 5, 6, 7, 8, 9, 10, 11, 12, 13, 14, 15, 16, 18], false⟩, ⟨0, false, [0, 1, 2, 3, 4, 5, 6, 7, 8, 9, 10, 11, 12, 13, 14, 15, 16, 18, 19], false⟩, ⟨0, false, [0, 1, 2, 3, 4, 5, 6, 7, 8, 9, 10, 11, 12, 13, 14, 15, 16, 17, 18, 19, 20], false⟩, ⟨0, false, [0, 1, 2, 3, 4, 5, 6, 7, 8, 9, 10, 11, 12, 13, 14, 15, 16, 17, 18, 19, 20, 21], false⟩, ⟨0, false, [0, 1, 2, 3, 4, 5, 6, 7, 8, 9, 10, 11, 12, 13, 14, 15, 16, 17, 18, 19, 20, 21, 22], false⟩, ⟨0, false, [0, 1, 2, 3, 4, 5, 6, 7, 8, 9, 10, 11, 12, 13, 14, 15, 16, 17, 18, 19, 20, 21, 22, 23], false⟩, ⟨0, false, [0, 1, 2, 3, 4, 5, 6, 7, 8, 9, 10, 11, 12, 13, 14, 15, 16, 17, 18, 19, 20, 21, 22, 23, 24], false⟩, ⟨0, false, [0, 1, 2, 3, 4, 5, 6, 7, 8, 9, 10, 11, 12, 13, 14, 15, 16, 17, 18, 19, 20, 21, 22, 23, 24, 25], false⟩, ⟨0, false, [0, 1, 2, 3, 4, 5, 6, 7, 8, 9, 10, 11, 12, 13, 14, 15, 16, 17, 18, 19, 20, 21, 22, 23, 24, 25, 26], false⟩, ⟨0, false, [0, 1, 2, 3, 4, 5, 6, 7, 8, 9, 10, 11, 12, 13, 14, 15, 16, 17, 18, 19, 20, 21, 22, 23, 24, 25, 26, 27], false⟩, ⟨0, false, [0, 1, 2, 3, 4, 5, 6, 7, 8, 9, 10, 11, 12, 13, 14, 15, 16, 17, 18, 19, 20, 21, 22, 23, 24, 25, 26, 27, 28], false⟩, ⟨0, false, [0, 1, 2, 3, 4, 5, 6, 7, 8, 9, 10, 11, 12, 13, 14, 15, 16, 17, 18, 19, 20, 21, 22, 23, 24, 25, 26, 27, 28, 29], false⟩, ⟨0, false, [0, 1, 2, 3, 4, 5, 6, 7, 8, 9, 10, 11, 12, 13, 14, 15, 16, 17, 18, 19, 20, 21, 22, 23, 24, 25, 26, 27, 28, 29, 30], false⟩, ⟨0, false, [0, 1, 2, 3, 4, 5, 6, 7, 8, 9, 10, 11, 12, 13, 14, 15, 16, 17, 18, 19, 20, 21, 22, 23, 24, 25, 26, 27, 28, 29, 30, 31], false⟩, ⟨0, false, [0, 1, 2, 3, 4, 5, 6, 7, 8, 9, 10, 11, 12, 13, 14, 15, 16, 17, 18, 19, 20, 21, 22, 23, 24, 25, 26, 27, 28, 29, 30, 31, 32], false⟩, ⟨0, false, [0, 1, 2, 3, 4, 5, 6, 7, 8, 9, 10, 11, 12, 13, 14, 15, 16, 17, 18, 19, 20, 21, 22, 23, 24, 25, 26, 27, 28, 29, 30, 31, 32, 33], false⟩, ⟨0, false, [0, 1, 2, 3, 4, 5, 6, 7, 8, 9, 10, 11, 12, 13, 14, 15, 16, 17, 18, 19, 20, 21, 22, 23, 24, 25, 26, 27, 28, 29, 30, 31, 32, 33, 34], false⟩, ⟨0, false, [0, 1, 2, 3, 4, 5, 6, 7, 8, 9, 10, 11, 12, 13, 14, 15, 16, 17, 18, 19, 20, 21, 22, 23, 24, 25, 26, 27, 28, 29, 30, 31, 32], false⟩, ⟨0, false, [0, 1, 2, 3, 4, 5, 6, 7, 8, 9, 10, 11, 12, 13, 14, 15, 16, 17, 18, 19, 20, 21, 22, 23, 24, 25, 26, 27, 28, 29, 30, 31, 32, 33, 34, 35, 36], false⟩, ⟨0, false, [0, 1, 2, 3, 4, 5, 6, 7, 8, 9, 10, 11, 12, 13, 14, 15, 16, 17, 18, 19, 20, 21, 22, 23, 24, 25, 26, 27, 28, 29, 30, 31, 32, 33, 34, 35, 36, 37], false⟩, ⟨0, false, [0, 1, 2, 3, 4, 5, 6, 7, 8, 9, 10, 11, 12, 13, 14, 15, 16, 17, 18, 19, 20, 21, 22, 23, 24, 25, 26, 27, 28, 29, 30, 31, 32, 33, 34, 35, 36, 37, 38], false⟩, ⟨0, false, [0, 1, 2, 3, 4, 5, 6, 7, 8, 9, 10, 11, 12, 13, 14, 15, 16, 17, 18, 19, 20, 21, 22, 23, 24, 25, 26, 27, 28, 29, 30, 31, 32, 33, 34, 35, 36, 37, 38, 39], false⟩, ⟨0, false, [0, 1, 2, 3, 4, 5, 6, 7, 8, 9, 10, 11, 12, 13, 14, 15, 16, 17, 18, 19, 20, 21, 22, 23, 24, 25, 26, 27, 28, 29, 30, 31, 32, 33, 34, 35, 36, 37, 38, 39, 40], false⟩, ⟨0, false, [0, 1, 2, 3, 4, 5, 6, 7, 8, 9, 10, 11, 12, 13, 14, 15, 16, 17, 18, 19, 20, 21, 22, 23, 24, 25, 26, 27, 28, 29, 30, 31, 32, 33, 34, 35, 36, 37, 38, 39, 40, 41], false⟩, ⟨0, false, [0, 1, 2, 3, 4, 5, 6, 7, 8, 9, 10, 11, 12, 13, 14, 15, 16, 17, 18, 19, 20, 21, 22, 23, 24, 25, 26, 27, 28, 29, 30, 31, 32, 33, 34, 35, 36, 37, 38, 39, 40, 41, 42], false⟩, ⟨0, false, [0, 1, 2, 3, 4, 5, 6, 7, 8, 9, 10, 11, 12, 13, 14, 15, 16, 17, 18, 19, 20, 21, 22, 23, 24, 25, 26, 27, 28, 29, 30, 31, 32, 33, 34, 35, 36, 37, 38, 39, 40, 41, 42, 43], false⟩, ⟨0, false, [0, 1, 2, 3, 4, 5, 6, 7, 8, 9, 10, 11, 12, 13, 14, 15, 16, 17, 18, 19, 20, 21, 22, 23, 24, 25, 26, 27, 28, 29, 30, 31, 32, 33, 34, 35, 36, 37, 38, 39, 40, 41, 42, 43, 44], false⟩, ⟨0, false, [0, 1, 2, 3, 4, 5, 6, 7, 8, 9, 10, 11, 12, 13, 14, 15, 16, 17, 18, 19, 20, 21, 22, 23, 24, 25, 26, 27, 28, 29, 30, 31, 32, 33, 34, 35, 36, 37, 38, 39, 40, 41, 42, 43, 44, 45], false⟩] mix tt_ok (by kernel_rfl) ?_
    simp only [Bool.not_true, ↓gFF, ↓nFF, exOp_eq, exCall_eq, exD_nil, exD_cons, nxD_eq, cur_eq, gdV, flI, ownB, evL, stepQ, ev, ofV, lk, putT, erA, inB, opt, bnd, req, ret, onQ, ap, binI, binG, binF, intF, strF, pickF, Kd.elem, ixA, asI, ldP, ldE, ldC, ldS, Kd.agg, comps, csize, takeI, takeC, dropC, fldF, bltQ, bltV, lenF, and_true, true_and, and_self, or_false, Nat.reduceEqDiff, Nat.reduceLT, Nat.reduceLeDiff, Nat.reduceAdd, Nat.reduceSub, Int.reduceLT, Int.reduceLE, Nat.sub_self, Nat.le_refl, Nat.add_zero, Nat.zero_add, if_true, if_false, Bool.false_eq_true, reduceCtorEq, ne_eq, not_false_eq_true, List.getElem?_cons_zero, List.getElem?_cons_succ, Option.bind_some, Option.map_some, tt_3, tt_9, tt_23, tt_29, beq_self_eq_true, bne_self_eq_false, q1, q2, g0, g1, g2, Int.toNat_zero, Int.toNat_one]
    refine hK _ ?_
    clear hK K
    refine W.cond (b := false) (by simp only [ev, lk, Nat.reduceEqDiff, if_true, if_false]) (fun h => absurd h (by simp)) (fun _ => ?_)
    refine W.skip ?_
    simp only [thn_normal, inb_normal]
    refine hK _ ?_
    have hw0 : IntKind.i64.wrap (0 + 1) = 1 := by decide
    refine W.region tt_ok ?_
    simp only [exOps_nil, exOps_cons, exOp_eq, nx_eq, cur_eq, stepQ, ev, ofV, lk, putT, erA, inB, opt, bnd, req, ret, onQ, ap, binI, binG, binF, intF, thn_normal, true_and, and_self, Nat.reduceEqDiff, Nat.reduceLT, Nat.reduceAdd, if_true, if_false, hw0]
    refine hK3 _ 1 (by omega) (by omega) ?_
    simp [alI, wk, leL, lk, nmT, nmE, nmH, AV.nmIn, AV.nmInL, Ent.nmIn, Row.nmIn]
  | 1, _ =>
    have l1 : (1 : Int) < 2 := by decide
    simp only [alI]
    refine W.seqK fun K hK => W.regionK tt_ok ?_
    simp only [decide_true, exOps_nil, exOps_cons, exOp_eq, nx_eq, cur_eq, stepQ, ev, lk, putT, erA, inB, opt, bnd, req, ret, onQ, ap, binI, binG, binF, intF, true_and, and_self, Nat.reduceEqDiff, Nat.reduceLT, Nat.reduceAdd, if_true, if_false, l1]
    refine hK _ ?_
    clear hK K
    refine W.seqK fun K hK => W.cond (b := true) (by simp only [ev, lk, Nat.reduceEqDiff, if_true, if_false]) (fun _ => W.skip ?_) (fun h => absurd h (by simp))
    rw [thn_normal]
    refine hK _ ?_
    clear hK K
    refine W.seqK fun K hK => W.blockK ?_
    refine W.seqK fun K hK => W.regionK tt_ok ?_
    simp only [exOps_nil, exOps_cons, exOp_eq, nx_eq, cur_eq, stepQ, ev, lk, putT, erA, inB, opt, bnd, req, ret, onQ, ap, Kd.elem, ixA, asI, ldP, ldE, ldC, ldS, Kd.agg, comps, csize, takeI, takeC, dropC, and_true, true_and, and_self, Nat.reduceEqDiff, Nat.reduceLT, Nat.reduceLeDiff, Nat.reduceAdd, Nat.reduceSub, Int.reduceLE, Nat.sub_self, Nat.le_refl, Nat.zero_add, if_true, if_false, Bool.false_eq_true, reduceCtorEq, Option.bind_some, Option.map_some, tt_25, tt_28, List.getD_cons_zero, List.getD_cons_succ, Int.toNat_one]
    refine ⟨by decide, by simp, ?_⟩
    refine hK _ ?_
    clear hK K
    refine W.seqK fun Kx hKx => ?_
    refine W.seqK fun K hK => W.regionK tt_ok ?_
    simp only [exOps_nil, exOps_cons, exOp_eq, nx_eq, cur_eq, stepQ, ev, ofV, lk, putT, erA, inB, opt, bnd, req, ret, onQ, ap, binI, binG, eqOp, true_and, and_self, Nat.reduceEqDiff, Nat.reduceLT, Nat.reduceAdd, if_true, if_false, tt_28]
    refine hK _ ?_
    clear hK K
    refine W.cond (b := false) (by simp only [ev, lk, Nat.reduceEqDiff, if_true, if_false]) (fun h => absurd h (by simp)) (fun _ => W.skip ?_)
    simp only [thn_normal]
    refine hKx _ ?_
    refine W.seqK fun K hK => W.regionK tt_ok ?_
    simp only [exOps_nil, exOps_cons, exOp_eq, nx_eq, cur_eq, stepQ, ev, ofV, lk, putT, erA, inB, opt, bnd, req, ret, onQ, ap, up, er, intsOf, cvQ, s2bQ, srcQ, Row.len, Row.sz, Row.take, Row.drop, Ent.row, mkQ, zeroCs, cellsRow, and_true, true_and, and_self, Nat.reduceEqDiff, Nat.reduceLT, Nat.reduceAdd, Int.reduceLE, Int.reduceToNat, Nat.zero_add, if_true, if_false, reduceCtorEq, ne_eq, not_false_eq_true, forall_const, Option.map_some, List.append_nil, tt_5, tt_9, tt_39]
    have hL := rep_len 32 0
    generalize hxs : List.take 32 (List.drop 0 (List.take 32 (List.replicate 32 (0 : Int)))) = xs at *
    refine ⟨⟨by decide, List.length_replicate ..⟩, by rw [List.length_take, List.length_replicate]; exact Nat.le_refl _, ?_⟩
    refine hK _ ?_
    clear hK K
    have hk : (strOf xs).size = 32 := by rw [strOf_size]; exact hL
    generalize strOf xs = kz at *
    have hk0 : kz ≠ eS := by rintro rfl; exact absurd hk (by decide)
    have hk4 : kz.size ≤ 4000 := by omega
    have ok1 := syT_ok okTs_nil hk4 sN4 2
    have hT1 := syT_ne (T := []) hk4 sN4 1
    have hl1 := syT_len [] kz sNext 2
    simp only [List.length_nil] at hl1
    have c12 := synext0 (T := []) okTs_nil (by simp) kz 0 (by omega) (by omega) hk0 hk4 256 (by omega) (by omega)
    obtain ⟨w1, w2⟩ := sy_again okTs_nil uniq_nil hk4 sN4 2 2 (Nat.le_refl _)
    have ck := sykeys_fn (syT [] kz sNext 2) kz sNext hk4 sN4 ok1 (by omega) 2 (by omega) (by omega)
    have c11 := syskip_ok ok1 (by omega) kz 0 2 2 rfl (by omega) (by omega) (by omega) (by omega) hk0 hk4
    rw [tabS_ne 3 hT1, w1, w2] at ck
    rw [tabS_ne 3 hT1] at c11
    have w3 : syN (syT [] kz sNext 2) kz sNext 2 = [putN (encL (syT [] kz sNext 2)) 4 (kyP kz sNext 0), scM (syT [] kz sNext 2) kz 0] := rfl
    have w4 : syN [] kz sNext 2 = [putN (encL []) 4 (kyP kz sNext 0), putN (encL (syT [] kz sNext 1)) 4 (kyP kz sNext 1)] := rfl
    have w5 : scL (syT [] kz sNext 2) kz 2 = [scM (syT [] kz sNext 2) kz 0, scM (syT [] kz sNext 2) kz 1] := rfl
    rw [w3, w4] at w2
    rw [w4] at ck
    simp only [List.cons.injEq, and_true] at w2
    rw [w5, w2.2] at c11
    have hT2 := sc_T ok1 hk4 1
    generalize putN (encL []) 4 (kyP kz sNext 0) = k1 at *
    generalize putN (encL (syT [] kz sNext 1)) 4 (kyP kz sNext 1) = m0 at *
    generalize scM (syT [] kz sNext 2) kz 1 = m1 at *
    generalize (scT (syT [] kz sNext 2) kz 2).2 = k2 at *
    generalize (scT (syT [] kz sNext 2) kz 2).1 = T2 at *
    clear w1 w2 w3 w4 w5 ok1
    generalize syT [] kz sNext 2 = T1 at *
    have sty1 : ∀ x ∈ [AV.agg [.ptr 0 0 0 1], .str kz, .str sNext, .int .i64 ((2 : Nat) : Int)], stay x := by
      intro x hx
      simp only [List.mem_cons, List.not_mem_nil, or_false] at hx
      rcases hx with rfl | rfl | rfl | rfl
      · intro a b ha hb
        have h0 : ¬ (0 : Nat) = a := by omega
        have g0 : ¬ (0 : Nat) = b := by omega
        simp [AV.map, AV.mapL, swp, h0, g0]
      · exact stay_str _
      · exact stay_str _
      · exact stay_int _ _
    have sty2 : ∀ (n t : Int), ∀ x ∈ [AV.ifc 55 (.agg [.ptr 0 0 0 1]), cV kz n, .int .i64 t], stay x := by
      intro n t x hx
      simp only [List.mem_cons, List.not_mem_nil, or_false] at hx
      rcases hx with rfl | rfl | rfl
      · exact stay_sy
      · exact stay_cV _ _
      · exact stay_int _ _
    have ck := renK (r1 := fun x => x) 256 432 433 (by omega) (by omega) (by omega) (by omega) (by omega) (by omega) sty1 (fun _ _ _ _ _ => rfl) ck
    have c11 := renK (r1 := fun x => .tup [cV k2 2, x, .int .i64 0]) 433 512 513 (by omega) (by omega) (by omega) (by omega) (by omega) (by omega) (sty2 0 2) (fun _ _ _ _ _ => rfl) c11
    have cf := renS (r := .tup [cV kz 0, .nils, .int .i64 8]) (l := encL T2) (l' := encL T2) 513 (by omega) (sty2 0 21) (fun _ _ _ _ => rfl) (s1skip_far (T := T2) kz 0 21 (by omega) (by omega) (by omega) (by omega))
    simp only [tabS_nil, tabE, tbX, cV, Int.zero_add] at c12 ck c11 cf
    have g0 : List.getD [k1, m0] 0 ByteArray.empty = k1 := rfl
    have g1 : List.getD [k1, m0] 1 ByteArray.empty = m0 := rfl
    have g2 : List.getD [m0, m1] 0 ByteArray.empty = m0 := rfl
    have hsx : sNext = { data := #[110, 101, 120, 116] } := rfl
    have q2 : ((2 : Nat) : Int) = 2 := rfl
    rw [hsx] at ck
    refine W.seqK fun K hK => W.regionK tt_ok ?_
    simp only [exOps_cons, exOp_eq, exCall_eq, nx_eq, cur_eq, evL, evP, stepQ, ev, lk, putT, erA, inB, opt, bnd, req, ret, onQ, ap, AV.isTup, AV.isAgg, Kd.agg, comps, szL, csize, takeI, takeC, dropC, stC, stS, bldF, bldS, and_true, true_and, and_self, and_false, Nat.reduceEqDiff, Nat.reduceLT, Nat.reduceLeDiff, Nat.reduceAdd, Nat.reduceSub, Nat.sub_self, Nat.le_refl, Nat.add_zero, Nat.zero_add, if_true, if_false, Bool.false_eq_true, reduceCtorEq, List.getElem?_cons_zero, Option.bind_some, Option.map_some, List.nil_append, List.cons_append, tt_9, tt_23]
    refine ⟨by rfl, ?_⟩
    refine CallK.with [(0, .obj 58 (.agg [.mp 1, .mp 2, .nils])), (1, .mset (.strs [])), (2, .mset (.strs []))] [(0, .obj 58 (.agg [.mp 1, .mp 2, .sl 256 1 0 (encL (T1)).length])), (1, .mset (.strs (nmL (encL (T1))))), (2, .mset (.strs (tmL (encL (T1))))), (256, .vec 9 (.strs (alL (encL (T1)))))] _ _ c12 call12 (by simp only [AV.nmIn, bnd, req, ret, onQ, AV.isTup, isTupL, and_true, true_and, and_self, Bool.false_eq_true, List.append_nil, vw.vwL, vw, AV.free, AV.freeL, Bool.or_self]; all_goals (and_intros <;> first | exact AV.subL_refl _ | omega | (simp [AV.sub, entsFree, Ent.free, Row.free]; done) | rfl | (simp [AV.subL_refl]; done))) (by simp [leL, lk]) (by intro n hn; first | (left; revert hn; simp [Nm, lk]; done) | (right; revert hn; simp only [Nm, lk]; split <;> simp <;> omega) | (by_cases h1 : Nm [(0, .obj 58 (.agg [.mp 1, .mp 2, .nils])), (1, .mset (.strs [])), (2, .mset (.strs []))] n; exact .inl h1; right; revert hn h1; simp only [Nm, lk]; split <;> (try split) <;> (try split) <;> (try split) <;> (try simp) <;> (try omega))) (by simp [entsIn, Ent.nmIn, AV.nmIn, AV.nmInL, Nm, lk]) ?_
    simp only [callDel, exOps_nil, exOps_cons, exOp_eq, nx_eq, cur_eq, stepQ, ev, lk, putT, erA, inB, opt, bnd, req, ret, onQ, ap, up, er, AV.isTup, AV.isAgg, Kd.agg, comps, szL, csize, takeI, takeC, dropC, stP, stE, stC, stS, and_true, true_and, and_self, Nat.reduceEqDiff, Nat.reduceLT, Nat.reduceLeDiff, Nat.reduceAdd, Nat.reduceSub, Nat.sub_self, Nat.le_refl, Nat.add_zero, Nat.zero_add, if_true, if_false, reduceCtorEq, List.getElem?_cons_zero, List.getElem?_cons_succ, Option.bind_some, Option.map_some, List.append_nil, List.nil_append, List.cons_append, tt_23, List.map_cons, List.map_nil, List.reverse_cons, List.reverse_nil]
    refine hK _ ?_
    clear hK K
    refine W.seqK fun K hK => W.regionK tt_ok ?_
    simp only [exOps_cons, exOp_eq, exCall_eq, nx_eq, cur_eq, evL, stepQ, ev, ofV, lk, putT, erA, inB, opt, ret, onQ, ap, true_and, Nat.reduceEqDiff, Nat.reduceLT, Nat.reduceAdd, if_true, if_false, Option.bind_some, Option.map_some]
    refine CallM.mk _ _ (sy_keys 0) ?_
    refine CallK.with [(0, .obj 58 (.agg [.mp 1, .mp 2, .sl 256 1 0 (encL (T1)).length])), (1, .mset (.strs (nmL (encL (T1))))), (2, .mset (.strs (tmL (encL (T1))))), (256, .vec 9 (.strs (alL (encL (T1)))))] [(432, .vec 9 (.strs [k1, m0])), (0, .obj 58 (.agg [.mp 1, .mp 2, .sl 433 1 0 (encL (T1)).length])), (1, .mset (.strs (nmL (encL (T1))))), (2, .mset (.strs (tmL (encL (T1))))), (433, .vec 9 (.strs (alL (encL (T1)))))] _ _ ck call59 (by simp only [AV.nmIn, bnd, req, ret, onQ, AV.isTup, isTupL, and_true, true_and, and_self, Bool.false_eq_true, List.append_nil, vw.vwL, vw, AV.free, Bool.or_self]; all_goals (and_intros <;> first | exact AV.subL_refl _ | omega | (simp [AV.sub, entsFree, Ent.free, Row.free]; done) | rfl | (simp [AV.subL_refl]; done))) (by simp [leL, lk]) (by intro n hn; first | (left; revert hn; simp [Nm, lk]; done) | (right; revert hn; simp only [Nm, lk]; split <;> simp <;> omega) | (by_cases h1 : Nm [(0, .obj 58 (.agg [.mp 1, .mp 2, .sl 256 1 0 (encL (T1)).length])), (1, .mset (.strs (nmL (encL (T1))))), (2, .mset (.strs (tmL (encL (T1))))), (256, .vec 9 (.strs (alL (encL (T1)))))] n; exact .inl h1; right; revert hn h1; simp only [Nm, lk]; split <;> (try split) <;> (try split) <;> (try split) <;> (try simp) <;> (try omega))) (by simp [entsIn, Ent.nmIn, Row.nmIn, AV.nmIn, AV.nmInL, Nm, lk]) ?_
    simp only [callDel, exOps_nil, exOps_cons, exOp_eq, nx_eq, cur_eq, stepQ, ev, lk, putT, erA, inB, opt, ret, onQ, ap, up, er, true_and, Nat.reduceEqDiff, Nat.reduceLT, Nat.reduceAdd, if_true, if_false, reduceCtorEq, List.nil_append, List.cons_append, List.map_cons, List.map_nil, List.reverse_cons, List.reverse_nil]
    refine hK _ ?_
    clear hK K
    refine W.seqK fun K hK => W.regionK tt_ok ?_
    simp only [exOps_cons, exOp_eq, exCall_eq, nx_eq, cur_eq, evL, evP, stepQ, ev, ofV, lk, putT, erA, inB, opt, bnd, req, ret, onQ, ap, AV.isTup, AV.isAgg, Kd.agg, comps, szL, csize, takeI, takeC, dropC, stC, stS, bldF, bldS, and_true, true_and, and_self, and_false, Nat.reduceEqDiff, Nat.reduceLT, Nat.reduceLeDiff, Nat.reduceAdd, Nat.reduceSub, Nat.sub_self, Nat.le_refl, Nat.add_zero, Nat.zero_add, if_true, if_false, Bool.false_eq_true, reduceCtorEq, List.getElem?_cons_zero, Option.bind_some, Option.map_some, List.nil_append, List.cons_append, tt_9, tt_23]
    refine ⟨by rfl, ?_⟩
    refine CallK.with [(0, .obj 58 (.agg [.mp 1, .mp 2, .sl 433 1 0 (encL (T1)).length])), (1, .mset (.strs (nmL (encL (T1))))), (2, .mset (.strs (tmL (encL (T1))))), (433, .vec 9 (.strs (alL (encL (T1)))))] [(512, .vec 9 (.strs [m0, m1])), (0, .obj 58 (.agg [.mp 1, .mp 2, .sl 513 1 0 (encL (T2)).length])), (1, .mset (.strs (nmL (encL (T2))))), (2, .mset (.strs (tmL (encL (T2))))), (513, .vec 9 (.strs (alL (encL (T2)))))] _ _ c11 call11 (by simp only [AV.nmIn, bnd, req, ret, onQ, AV.isTup, isTupL, and_true, true_and, and_self, Bool.false_eq_true, List.append_nil, vw.vwL, vw, AV.free, AV.freeL, Bool.or_self]; all_goals (and_intros <;> first | exact AV.subL_refl _ | omega | (simp [AV.sub, entsFree, Ent.free, Row.free]; done) | rfl | (simp [AV.subL_refl]; done))) (by simp [leL, lk]) (by intro n hn; first | (left; revert hn; simp [Nm, lk]; done) | (right; revert hn; simp only [Nm, lk]; split <;> simp <;> omega) | (by_cases h1 : Nm [(0, .obj 58 (.agg [.mp 1, .mp 2, .sl 433 1 0 (encL (T1)).length])), (1, .mset (.strs (nmL (encL (T1))))), (2, .mset (.strs (tmL (encL (T1))))), (433, .vec 9 (.strs (alL (encL (T1)))))] n; exact .inl h1; right; revert hn h1; simp only [Nm, lk]; split <;> (try split) <;> (try split) <;> (try split) <;> (try simp) <;> (try omega))) (by simp [entsIn, Ent.nmIn, Row.nmIn, AV.nmIn, AV.nmInL, Nm, lk]) ?_
    simp only [callDel, exOps_nil, exOps_cons, exOp_eq, nx_eq, cur_eq, stepQ, ev, lk, putT, erA, inB, opt, bnd, req, ret, onQ, ap, up, er, AV.isTup, AV.isAgg, Kd.agg, comps, szL, csize, takeI, takeC, dropC, stP, stE, stC, stS, and_true, true_and, and_self, Nat.reduceEqDiff, Nat.reduceLT, Nat.reduceLeDiff, Nat.reduceAdd, Nat.reduceSub, Nat.sub_self, Nat.le_refl, Nat.add_zero, Nat.zero_add, if_true, if_false, reduceCtorEq, List.getElem?_cons_zero, List.getElem?_cons_succ, Option.bind_some, Option.map_some, List.append_nil, List.nil_append, List.cons_append, tt_23, List.map_cons, List.map_nil, List.reverse_cons, List.reverse_nil]
    refine hK _ ?_
    clear hK K
    refine W.seqK fun K hK => W.regionK tt_ok ?_
    simp only [exOps_cons, exOp_eq, exCall_eq, nx_eq, cur_eq, evL, evP, stepQ, ev, ofV, lk, putT, erA, inB, opt, bnd, req, ret, onQ, ap, AV.isTup, AV.isAgg, Kd.agg, comps, szL, csize, takeI, takeC, dropC, stC, stS, bldF, bldS, and_true, true_and, and_self, and_false, Nat.reduceEqDiff, Nat.reduceLT, Nat.reduceLeDiff, Nat.reduceAdd, Nat.reduceSub, Nat.sub_self, Nat.le_refl, Nat.add_zero, Nat.zero_add, if_true, if_false, Bool.false_eq_true, reduceCtorEq, List.getElem?_cons_zero, Option.bind_some, Option.map_some, List.nil_append, List.cons_append, tt_9, tt_23]
    refine ⟨by rfl, ?_⟩
    refine CallK.with [(0, .obj 58 (.agg [.mp 1, .mp 2, .sl 513 1 0 (encL (T2)).length])), (1, .mset (.strs (nmL (encL (T2))))), (2, .mset (.strs (tmL (encL (T2))))), (513, .vec 9 (.strs (alL (encL (T2)))))] [(0, .obj 58 (.agg [.mp 1, .mp 2, .sl 513 1 0 (encL (T2)).length])), (1, .mset (.strs (nmL (encL (T2))))), (2, .mset (.strs (tmL (encL (T2))))), (513, .vec 9 (.strs (alL (encL (T2)))))] _ _ cf call11 (by simp only [AV.nmIn, bnd, req, ret, onQ, AV.isTup, isTupL, and_true, true_and, and_self, Bool.false_eq_true, List.append_nil, vw.vwL, vw, AV.free, AV.freeL, Bool.or_self]; all_goals (and_intros <;> first | exact AV.subL_refl _ | omega | (simp [AV.sub, entsFree, Ent.free, Row.free]; done) | rfl | (simp [AV.subL_refl]; done))) (by simp [leL, lk]) (by intro n hn; first | (left; revert hn; simp [Nm, lk]; done) | (right; revert hn; simp only [Nm, lk]; split <;> simp <;> omega) | (by_cases h1 : Nm [(0, .obj 58 (.agg [.mp 1, .mp 2, .sl 513 1 0 (encL (T2)).length])), (1, .mset (.strs (nmL (encL (T2))))), (2, .mset (.strs (tmL (encL (T2))))), (513, .vec 9 (.strs (alL (encL (T2)))))] n; exact .inl h1; right; revert hn h1; simp only [Nm, lk]; split <;> (try split) <;> (try split) <;> (try split) <;> (try simp) <;> (try omega))) (by simp [entsIn, Ent.nmIn, Row.nmIn, AV.nmIn, AV.nmInL, Nm, lk]) ?_
    simp only [callDel, exOps_nil, exOps_cons, exOp_eq, nx_eq, cur_eq, stepQ, ev, lk, putT, erA, inB, opt, bnd, req, ret, onQ, ap, up, er, AV.isTup, AV.isAgg, Kd.agg, comps, szL, csize, takeI, takeC, dropC, stP, stE, stC, stS, and_true, true_and, and_self, Nat.reduceEqDiff, Nat.reduceLT, Nat.reduceLeDiff, Nat.reduceAdd, Nat.reduceSub, Nat.sub_self, Nat.le_refl, Nat.add_zero, Nat.zero_add, if_true, if_false, reduceCtorEq, List.getElem?_cons_zero, List.getElem?_cons_succ, Option.bind_some, Option.map_some, List.append_nil, List.nil_append, List.cons_append, tt_23, List.map_cons, List.map_nil, List.reverse_cons, List.reverse_nil]
    refine hK _ ?_
    clear hK K
    refine W.seqK fun K hK => W.drawK [⟨0, false, [], false⟩, ⟨0, false, [0], false⟩, ⟨0, false, [0, 1], false⟩, ⟨0, false, [0, 1, 2], false⟩, ⟨0, false, [0, 1, 2, 3], false⟩, ⟨0, false, [0, 1, 2, 3, 4], false⟩, ⟨0, false, [0, 1, 2, 3], false⟩, ⟨0, false, [0, 1, 2, 3, 6], false⟩, ⟨0, false, [0, 1, 2, 3, 6, 7], false⟩, ⟨0, false, [0, 1, 2, 3, 4, 5, 6, 7, 8], false⟩, ⟨0, false, [0, 1, 2, 3, 4, 5, 6, 7, 8, 9], false⟩, ⟨0, false, [0, 1, 2, 3, 4, 5, 6, 7, 8, 9, 10], false⟩, ⟨0, false, [0, 1, 2, 3, 4, 5, 6, 7, 8, 9, 10, 11], false⟩, ⟨0, false, [0, 1, 2, 3, 4, 5, 6, 7, 8, 9, 10, 11, 12], false⟩, ⟨0, false, [0, 1, 2, 3, 4, 5, 6, 7, 8, 9, 10, 11, 12, 13], false⟩, ⟨0, false, [0, 1, 2, 3, 4, 5, 6, 7, 8, 9, 10, 11, 12, 13, 14], false⟩, ⟨0, false, [0, 1, 2, 3, 4, 5, 6, 7, 8, 9, 10, 11, 12, 13, 14, 15], false⟩, ⟨0, false, [0, 1, 2, 3, 4, 5, 6, 7, 8, 9, 10, 11, 12, 13, 14, 15, 16], false⟩, ⟨0, false, [0, 1, 2, 3, 4, 5, 6, 7, 8, 9, 10, 11, 12, 13, 14, 15, 16], false⟩, ⟨0, false, [0, 1, 2, 3, 4, 5, 6, 7, 8, 9, 10, 11, 12, 13, 14, 15, 16, 18], false⟩, ⟨0, false, [0, 1, 2, 3, 4, 5, 6, 7, 8, 9, 10, 11, 12, 13, 14, 15, 16, 18, 19], false⟩, ⟨0, false, [0, 1, 2, 3, 4, 5, 6, 7, 8, 9, 10, 11, 12, 13, 14, 15, 16, 17, 18, 19, 20], false⟩, ⟨0, false, [0, 1, 2, 3, 4, 5, 6, 7, 8, 9, 10, 11, 12, 13, 14, 15, 16, 17, 18, 19, 20, 21], false⟩, ⟨0, false, [0, 1, 2, 3, 4, 5, 6, 7, 8, 9, 10, 11, 12, 13, 14, 15, 16, 17, 18, 19, 20, 21, 22], false⟩, ⟨0, false, [0, 1, 2, 3, 4, 5, 6, 7, 8, 9, 10, 11, 12, 13, 14, 15, 16, 17, 18, 19, 20, 21, 22, 23], false⟩, ⟨0, false, [0, 1, 2, 3, 4, 5, 6, 7, 8, 9, 10, 11, 12, 13, 14, 15, 16, 17, 18, 19, 20, 21, 22, 23, 24], false⟩, ⟨0, false, [0, 1, 2, 3, 4, 5, 6, 7, 8, 9, 10, 11, 12, 13, 14, 15, 16, 17, 18, 19, 20, 21, 22, 23, 24, 25], false⟩, ⟨0, false, [0, 1, 2, 3, 4, 5, 6, 7, 8, 9, 10, 11, 12, 13, 14, 15, 16, 17, 18, 19, 20, 21, 22, 23, 24, 25, 26], false⟩, ⟨0, false, [0, 1, 2, 3, 4, 5, 6, 7, 8, 9, 10, 11, 12, 13, 14, 15, 16, 17, 18, 19, 20, 21, 22, 23, 24, 25, 26, 27], false⟩, ⟨0, false, [0, 1, 2, 3, 4, 5, 6, 7, 8, 9, 10, 11, 12, 13, 14, 15, 16, 17, 18, 19, 20, 21, 22, 23, 24, 25, 26, 27, 28], false⟩, ⟨0, false, [0, 1, 2, 3, 4, 5, 6, 7, 8, 9, 10, 11, 12, 13, 14, 15, 16, 17, 18, 19, 20, 21, 22, 23, 24, 25, 26, 27, 28, 29], false⟩, ⟨0, false, [0, 1, 2, 3, 4, 5, 6, 7, 8, 9, 10, 11, 12, 13, 14, 15, 16, 17, 18, 19, 20, 21, 22, 23, 24, 25, 26, 27, 28, 29, 30], false⟩, ⟨0, false, [0, 1, 2, 3, 4, 5, 6, 7, 8, 9, 10, 11, 12, 13, 14, 15, 16, 17, 18, 19, 20, 21, 22, 23, 24, 25, 26, 27, 28, 29, 30, 31], false⟩, ⟨0, false, [0, 1, 2, 3, 4, 5, 6, 7, 8, 9, 10, 11, 12, 13, 14, 15, 16, 17, 18, 19, 20, 21, 22, 23, 24, 25, 26, 27, 28, 29, 30, 31, 32], false⟩, ⟨0, false, [0, 1, 2, 3, 4, 5, 6, 7, 8, 9, 10, 11, 12, 13, 14, 15, 16, 17, 18, 19, 20, 21, 22, 23, 24, 25, 26, 27, 28, 29, 30, 31, 32, 33], false⟩, ⟨0, false, [0, 1, 2, 3, 4, 5, 6, 7, 8, 9, 10, 11, 12, 13, 14, 15, 16, 17, 18, 19, 20, 21, 22, 23, 24, 25, 26, 27, 28, 29, 30, 31, 32, 33, 34], false⟩, ⟨0, false, [0, 1, 2, 3, 4, 5, 6, 7, 8, 9, 10, 11, 12, 13, 14, 15, 16, 17, 18, 19, 20, 21, 22, 23, 24, 25, 26, 27, 28, 29, 30, 31, 32], false⟩, ⟨0, false, [0, 1, 2, 3, 4, 5, 6, 7, 8, 9, 10, 11, 12, 13, 14, 15, 16, 17, 18, 19, 20, 21, 22, 23, 24, 25, 26, 27, 28, 29, 30, 31, 32, 33, 34, 35, 36], false⟩, ⟨0, false, [0, 1, 2, 3, 4, 5, 6, 7, 8, 9, 10, 11, 12, 13, 14, 15, 16, 17, 18, 19, 20, 21, 22, 23, 24, 25, 26, 27, 28, 29, 30, 31, 32, 33, 34, 35, 36, 37], false⟩, ⟨0, false, [0, 1, 2, 3, 4, 5, 6, 7, 8, 9, 10, 11, 12, 13, 14, 15, 16, 17, 18, 19, 20, 21, 22, 23, 24, 25, 26, 27, 28, 29, 30, 31, 32, 33, 34, 35, 36, 37, 38], false⟩, ⟨0, false, [0, 1, 2, 3, 4, 5, 6, 7, 8, 9, 10, 11, 12, 13, 14, 15, 16, 17, 18, 19, 20, 21, 22, 23, 24, 25, 26, 27, 28, 29, 30, 31, 32, 33, 34, 35, 36, 37, 38, 39], false⟩, ⟨0, false, [0, 1, 2, 3, 4, 5, 6, 7, 8, 9, 10, 11, 12, 13, 14, 15, 16, 17, 18, 19, 20, 21, 22, 23, 24, 25, 26, 27, 28, 29, 30, 31, 32, 33, 34, 35, 36, 37, 38, 39, 40], false⟩, ⟨0, false, [0, 1, 2, 3, 4, 5, 6, 7, 8, 9, 10, 11, 12, 13, 14, 15, 16, 17, 18, 19, 20, 21, 22, 23, 24, 25, 26, 27, 28, 29, 30, 31, 32, 33, 34, 35, 36, 37, 38, 39, 40, 41], false⟩, ⟨0, false, [0, 1, 2, 3, 4, 5, 6, 7, 8, 9, 10, 11, 12, 13, 14, 15, 16, 17, 18, 19, 20, 21, 22, 23, 24, 25, 26, 27, 28, 29, 30, 31, 32, 33, 34, 35, 36, 37, 38, 39, 40, 41, 42], false⟩, ⟨0, false, [0, 1, 2, 3, 4, 5, 6, 7, 8, 9, 10, 11, 12, 13, 14, 15, 16, 17, 18, 19, 20, 21, 22, 23, 24, 25, 26, 27, 28, 29, 30, 31, 32, 33, 34, 35, 36, 37, 38, 39, 40, 41, 42, 43], false⟩, ⟨0, false, [0, 1, 2, 3, 4, 5, 6, 7, 8, 9, 10, 11, 12, 13, 14, 15, 16, 17, 18, 19, 20, 21, 22, 23, 24, 25, 26, 27, 28, 29, 30, 31, 32, 33, 34, 35, 36, 37, 38, 39, 40, 41, 42, 43, 44], false⟩, ⟨0, false, [0, 1, 2, 3, 4, 5, 6, 7, 8, 9, 10, 11, 12, 13, 14, 15, 16, 17, 18, 19, 20, 21, 22, 23, 24, 25, 26, 27, 28, 29, 30, 31, 32, 33, 34, 35, 36, 37, 38, 39, 40, 41, 42, 43, 44, 45], false⟩] mix tt_ok (by kernel_rfl) ?_
    simp only [Bool.not_true, ↓gFF, ↓nFF, exOp_eq, exCall_eq, exD_nil, exD_cons, nxD_eq, cur_eq, gdV, flI, ownB, evL, stepQ, ev, ofV, lk, putT, erA, inB, opt, bnd, req, ret, onQ, ap, binI, binG, binF, intF, strF, pickF, Kd.elem, ixA, asI, ldP, ldE, ldC, ldS, Kd.agg, comps, csize, takeI, takeC, dropC, fldF, bltQ, bltV, lenF, and_true, true_and, and_self, or_false, Nat.reduceEqDiff, Nat.reduceLT, Nat.reduceLeDiff, Nat.reduceAdd, Nat.reduceSub, Int.reduceLT, Int.reduceLE, Nat.sub_self, Nat.le_refl, Nat.add_zero, Nat.zero_add, if_true, if_false, Bool.false_eq_true, reduceCtorEq, ne_eq, not_false_eq_true, List.getElem?_cons_zero, List.getElem?_cons_succ, Option.bind_some, Option.map_some, tt_3, tt_9, tt_23, tt_29, beq_self_eq_true, bne_self_eq_false, q2, g0, g1, g2, Int.toNat_zero, Int.toNat_one]
    refine ⟨by simp, by simp, by simp, ?_⟩
    refine hK _ ?_
    clear hK K
    refine W.cond (b := false) (by simp only [ev, lk, Nat.reduceEqDiff, if_true, if_false]) (fun h => absurd h (by simp)) (fun _ => ?_)
    refine W.skip ?_
    simp only [thn_normal, inb_normal]
    refine hK _ ?_
    have hw1 : IntKind.i64.wrap (1 + 1) = 2 := by decide
    refine W.region tt_ok ?_
    simp only [exOps_nil, exOps_cons, exOp_eq, nx_eq, cur_eq, stepQ, ev, ofV, lk, putT, erA, inB, opt, bnd, req, ret, onQ, ap, binI, binG, binF, intF, thn_normal, true_and, and_self, Nat.reduceEqDiff, Nat.reduceLT, Nat.reduceAdd, if_true, if_false, hw1]
    refine hK3 _ 2 (by omega) (by omega) ?_
    simp [alI, wk, leL, lk, nmT, nmE, nmH, AV.nmIn]
  | 2, _ =>
    have l1 : ¬ (2 : Int) < 2 := by decide
    simp only [alI]
    refine W.seqK fun K hK => W.regionK tt_ok ?_
    simp only [decide_false, exOps_nil, exOps_cons, exOp_eq, nx_eq, cur_eq, stepQ, ev, lk, putT, erA, inB, opt, bnd, req, ret, onQ, ap, binI, binG, binF, intF, true_and, and_self, Nat.reduceEqDiff, Nat.reduceLT, Nat.reduceAdd, if_true, if_false, l1]
    refine hK _ ?_
    clear hK K
    refine W.seqK fun K hK => W.cond (b := false) (by simp only [ev, lk, Nat.reduceEqDiff, if_true, if_false]) (fun h => absurd h (by simp)) (fun _ => W.exit ?_)
    simp only [thn_normal, thn_exit, inb_exit, if_true]
    clear hK K
    refine hKy _ ?_
    refine W.seqK fun K hK => W.regionK tt_ok ?_
    simp only [exOps_nil, exOps_cons, exOp_eq, nx_eq, cur_eq, stepQ, ev, ofV, putT, erA, inB, opt, ret, onQ, ap, true_and, Nat.reduceLT, Nat.reduceAdd, if_false, reduceCtorEq]
    refine hK _ ?_
    clear hK K
    refine W.ret ?_
    simp only [fin_ret, finB, resQ, resV, leL, AV.nmIn, entsIn, lk, opt, bnd, req, ret, onQ, AV.isTup, and_self, if_true, if_false, reduceCtorEq]
    done
theorem call9 : Callable Try.prog 9 := ⟨_, Try.func9, by kernel_rfl, by kernel_rfl⟩
end Go.Proofs.Ytbefcdgjainflaa
