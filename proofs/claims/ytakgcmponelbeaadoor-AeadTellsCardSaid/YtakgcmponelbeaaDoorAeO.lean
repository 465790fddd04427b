/- The reference: nonce, filled. -/
import Derived.Test.YtakgcmponelbeaaDoorAeN
-- TT 3 5 23 24 36
set_option linter.unusedVariables false
set_option linter.unusedSimpArgs false
namespace Go.Proofs.YtakgcmponelbeaaDoor
open Sx
set_option maxRecDepth 100000
set_option maxHeartbeats 2000000
theorem call24 : Callable Tryd.prog 24 := ⟨_, Tryd.func24, by kernel_rfl, by kernel_rfl⟩
def nR (l : List Int) : Nat → List Int
  | 0 => List.replicate 12 0
  | k + 1 => (nR l k).set (4 + k) (l.getD k 0)
theorem nR_len (l : List Int) : ∀ k, (nR l k).length = 12
  | 0 => by simp [nR]
  | k + 1 => by simp [nR, nR_len l k]
theorem nR_eq (n : Int) : nR (lowL [] n 8) 8 = nonN n := by
  simp [nR, nonN, lowL, List.replicate_succ]
theorem nonceR_fn (n : Int) (hv : 0 ≤ n ∧ n < 18446744073709551616) : FnR Tryd.prog G 17 [.int .u64 n] [] (.agg [.ints .u8 12 (nonN n)]) [] := by
  have c24 := lowR_ok n hv
  have hl : (lowL [] n 8).length = 8 := by rw [lowL_len]; rfl
  rw [← nR_eq]
  generalize lowL [] n 8 = L at *
  refine FnR.of_walk (m := 20) (n0 := 0) tt_ok Tryd.func17 rfl rfl (by simp) (by simp [nmH]) ?_
  rw [show Tryd.f17.results.toList = [.cell 2 36] from rfl]
  refine W.seqK fun K hK => W.regionK tt_ok ?_
  simp only [exOps_nil, exOps_cons, exOp_eq, nx_eq, cur_eq, stepQ, parT, putT, erA, inB, opt, ret, onQ, ap, up, er, true_and, Nat.reduceLT, Nat.zero_add, if_false, reduceCtorEq, tt_36]
  refine hK _ ?_
  clear hK K
  refine W.seqK fun K hK => W.regionK tt_ok ?_
  simp only [exOps_nil, exOps_cons, exOp_eq, nx_eq, cur_eq, stepQ, putT, erA, inB, opt, ret, onQ, ap, up, er, true_and, Nat.reduceEqDiff, Nat.reduceLT, Nat.reduceAdd, if_false, reduceCtorEq, tt_36]
  refine hK _ ?_
  clear hK K
  refine W.seqK fun K hK => W.regionK tt_ok ?_
  simp only [exOps_cons, exOp_eq, exCall_eq, nx_eq, cur_eq, evL, stepQ, ev, lk, putT, erA, inB, opt, ret, onQ, ap, true_and, Nat.reduceEqDiff, Nat.reduceLT, Nat.reduceAdd, if_true, if_false, reduceCtorEq, Option.bind_some, Option.map_some]
  refine CallK.pure _ _ c24 call24 (by simp only [AV.nmIn, bnd, req, ret, onQ, AV.isTup, isTupL, and_true, true_and, and_self, Bool.false_eq_true, not_false_eq_true, imp_false, List.append_nil, vw.vwL, vw, AV.free, Bool.or_self]; all_goals (and_intros <;> first | exact AV.subL_refl _ | omega | rfl | (simp [AV.subL_refl]; done) | (simp; exact AV.subL_refl _) | (simp [AV.subL, AV.sub]; done))) ?_
  simp only [exOps_nil, exOps_cons, exOp_eq, nx_eq, cur_eq, stepQ, ev, lk, putT, erA, inB, opt, ret, onQ, ap, true_and, Nat.reduceEqDiff, Nat.reduceLT, Nat.reduceAdd, if_true, if_false, reduceCtorEq]
  refine hK _ ?_
  clear hK K
  refine W.seqK fun Kz hKz => ?_
  refine W.seqK fun K hK => W.regionK tt_ok ?_
  simp only [exOps_nil, exOps_cons, exOp_eq, nx_eq, cur_eq, stepQ, ev, ofV, putT, erA, inB, opt, ret, onQ, ap, true_and, Nat.reduceEqDiff, Nat.reduceLT, Nat.reduceAdd, if_false, reduceCtorEq]
  refine hK _ ?_
  clear hK K
  refine W.blockK ?_
  refine W.loopK (fun k : Nat => k ≤ 8) (fun k => ⟨[(2, .ptr 0 0 0 1), (3, .ptr 16 0 0 1), (4, .lstI .u8 L), (5, .int .i64 (k : Int))], [(16, .obj 36 (.agg [.ints .u8 12 (nR L k)])), (0, .obj 36 (.agg [.ints .u8 12 (List.replicate 12 0)]))], 1024, 20⟩) (fun k => 8 - k) 0 (by simp) (by simp [nR, wk, leL, lk, nmT, nmE, nmH, AV.nmIn, AV.nmInL, Ent.nmIn]) ?_
  intro k hk8 K3 hK3
  by_cases hlt : k < 8
  · have c1 : (k : Int) < 8 := by omega
    have w4 : IntKind.i64.wrap (4 + (k : Int)) = ((4 + k : Nat) : Int) := by rw [IntKind.wrap_i64]; omega
    have hnl := nR_len L k
    refine W.seqK fun K hK => ?_
    refine W.seqK fun K hK => W.regionK tt_ok ?_
    simp only [decide_true, exOps_nil, exOps_cons, exOp_eq, nx_eq, cur_eq, stepQ, ev, ofV, lk, putT, erA, inB, opt, bnd, req, ret, onQ, ap, binG, binF, intF, true_and, and_self, Nat.reduceEqDiff, Nat.reduceLT, Nat.reduceAdd, if_true, if_false, c1]
    refine hK _ ?_
    clear hK K
    refine W.cond (b := true) (by simp only [ev, lk, Nat.reduceEqDiff, if_true, if_false]) (fun _ => W.skip ?_) (fun h => absurd h (by simp))
    rw [thn_normal]
    refine hK _ ?_
    refine W.seqK fun K hK => W.blockK ?_
    refine W.region tt_ok ?_
    simp only [exOps_nil, exOps_cons, exOp_eq, nx_eq, cur_eq, stepQ, ev, ofV, lk, putT, erA, inB, opt, bnd, req, ret, onQ, ap, up, er, AV.isTup, AV.isAgg, binG, binF, intF, Kd.elem, Kd.isInt, ixA, asI, ldP, ldC, ldS, Kd.agg, comps, csize, takeI, takeC, dropC, stP, stE, stC, stS, thn_normal, inb_normal, and_true, true_and, and_self, Nat.reduceEqDiff, Nat.reduceLT, Nat.reduceLeDiff, Nat.reduceAdd, Nat.reduceSub, Nat.sub_self, Int.toNat_natCast, Nat.le_refl, Nat.zero_add, if_true, if_false, Bool.false_eq_true, reduceCtorEq, Option.bind_some, Option.map_some, tt_5, tt_24, tt_36, w4, Int.toNat_natCast]
    repeat (refine ⟨by omega, ?_⟩)
    refine hK _ ?_
    clear hK K
    refine W.region tt_ok ?_
    simp only [exOps_nil, exOps_cons, exOp_eq, nx_eq, cur_eq, stepQ, ev, ofV, lk, putT, erA, inB, opt, bnd, req, ret, onQ, ap, binG, binF, intF, thn_normal, true_and, and_self, Nat.reduceEqDiff, Nat.reduceLT, Nat.reduceAdd, if_true, if_false, wrap_up k (by omega)]
    refine hK3 _ (k + 1) (by omega) (by omega) ?_
    simp [nR, wk, leL, lk, nmT, nmE, nmH, AV.nmIn, AV.nmInL, Ent.nmIn]
  have hk8' : k = 8 := by omega
  subst hk8'
  have c1 : ¬ (((8 : Nat) : Int) < 8) := by omega
  refine W.seqK fun K hK => ?_
  refine W.seqK fun K hK => W.regionK tt_ok ?_
  simp only [decide_false, exOps_nil, exOps_cons, exOp_eq, nx_eq, cur_eq, stepQ, ev, ofV, lk, putT, erA, inB, opt, bnd, req, ret, onQ, ap, binG, binF, intF, true_and, and_self, Nat.reduceEqDiff, Nat.reduceLT, Nat.reduceAdd, if_true, if_false, c1]
  refine hK _ ?_
  clear hK K
  refine W.cond (b := false) (by simp only [ev, lk, Nat.reduceEqDiff, if_true, if_false]) (fun h => absurd h (by simp)) (fun _ => W.exit ?_)
  simp only [thn_normal, thn_exit, inb_exit, if_true]
  refine hKz _ ?_
  refine W.seqK fun K hK => W.regionK tt_ok ?_
  simp only [exOps_nil, exOps_cons, exOp_eq, nx_eq, cur_eq, stepQ, ev, lk, putT, erA, inB, opt, bnd, req, ret, onQ, ap, up, er, AV.isAgg, ldP, ldE, ldC, ldS, Kd.agg, comps, szL, csize, takeI, takeC, dropC, stP, stE, stC, stS, true_and, and_self, Nat.reduceEqDiff, Nat.reduceLT, Nat.reduceLeDiff, Nat.reduceAdd, Nat.reduceSub, Nat.sub_self, Nat.le_refl, Nat.add_zero, Nat.zero_add, if_true, if_false, reduceCtorEq, Option.bind_some, Option.map_some, List.append_nil, List.nil_append, tt_36]
  refine hK _ ?_
  clear hK K
  refine W.ret ?_
  simp only [fin_ret, finB, resQ, resV, leL, AV.nmIn, AV.nmInL, entsIn, lk, opt, bnd, req, ret, onQ, AV.isTup, ldP, ldE, ldC, ldS, Kd.agg, comps, csize, takeI, takeC, dropC, and_self, Nat.reduceEqDiff, Nat.reduceLT, Nat.reduceLeDiff, Nat.reduceSub, Nat.sub_self, Nat.le_refl, Nat.add_zero, if_true, if_false, reduceCtorEq, Option.bind_some, Option.map_some, tt_36]
/-- Filled up, in a row of one's own. -/
theorem padR_own (b : List Int) (hb : b.length ≤ 100000) : FnR Tryd.prog G 25 [.lstI .u8 b] [] (.sl 48 1 0 (padL b).length) [(48, .vec 5 (.ints .u8 (padL b)))] := by
  refine FnR.of_walk (m := 15) (n0 := 0) tt_ok Tryd.func25 rfl rfl (by simp) (by simp [nmH]) ?_
  rw [show Tryd.f25.results.toList = [.tmp 2] from rfl]
  refine W.seqK fun K hK => W.regionK tt_ok ?_
  simp only [exOps_nil, exOps_cons, exOp_eq, nx_eq, cur_eq, stepQ, ev, ofV, parT, putT, erA, inB, opt, ret, onQ, ap, true_and, Nat.reduceLT, Nat.zero_add, if_false, reduceCtorEq]
  refine hK _ ?_
  clear hK K
  refine W.seqK fun K hK => W.regionK tt_ok ?_
  simp only [exOps_nil, exOps_cons, exOp_eq, exCall_eq, nx_eq, cur_eq, evL, evP, stepQ, ev, lk, putT, erA, inB, opt, bnd, req, ret, onQ, ap, up, er, intsOf, bltQ, bltV, appQ, appV, srcQ, rowOf, Row.len, Row.sz, Row.take, Row.app, bldA, bslQ, zeroCs, cellsRow, and_true, true_and, and_self, or_false, Nat.reduceEqDiff, Nat.reduceLT, Nat.reduceAdd, Nat.reduceMul, Nat.le_refl, Nat.zero_le, Nat.zero_add, if_true, if_false, reduceCtorEq, Option.bind_some, Option.map_some, List.nil_append, tt_5, tt_24, List.replicate_zero, List.length_nil, List.take_nil, List.nil_append, Nat.zero_add]
  refine ⟨⟨by omega, by omega⟩, ?_⟩
  refine hK _ ?_
  clear hK K
  refine W.seqK fun Kz hKz => W.blockK ?_
  refine W.loopS (fun j : Nat => j ≤ (16 - b.length % 16) % 16) (fun j => ⟨[(2, .nils), (3, .sl 48 1 0 (b.length + j))], [(48, .vec 5 (.ints .u8 (b ++ List.replicate j 0)))], 1024, 15⟩) (fun j => (16 - b.length % 16) % 16 - j) 0 (by simp)
    (by simp [wk, leL, lk, nmT, nmE, nmH, AV.nmIn, Ent.nmIn, Row.nmIn]) ?_
  intro j hj K3 hK3
  have hq : Int.tmod ((b.length + j : Nat) : Int) 16 = (((b.length + j) % 16 : Nat) : Int) := by rw [Int.tmod_eq_emod_of_nonneg (by omega)]; omega
  have hzl : (b ++ List.replicate j 0).length = b.length + j := by simp
  have hzt : List.take (b.length + j) (b ++ List.replicate j 0) = b ++ List.replicate j 0 := List.take_of_length_le (by omega)
  refine W.seqK fun K hK => ?_
  by_cases hjp : j < (16 - b.length % 16) % 16
  · have c7 : (0 : Int) < (((b.length + j) % 16 : Nat) : Int) := by omega
    refine W.seqK fun K hK => W.regionK tt_ok ?_
    simp only [decide_true, exOps_nil, exOps_cons, exOp_eq, exCall_eq, nx_eq, cur_eq, evL, stepQ, ev, ofV, lk, putT, erA, inB, opt, bnd, req, ret, onQ, ap, binG, binF, intF, bltQ, bltV, lenF, and_true, true_and, and_self, or_false, Nat.reduceEqDiff, Nat.reduceLT, Nat.reduceAdd, if_true, if_false, ne_eq, List.getElem?_cons_zero, Option.bind_some, Option.map_some, tt_24, hq, c7]
    repeat (refine ⟨by omega, ?_⟩)
    refine hK _ ?_
    clear hK K
    refine W.cond (b := true) (by simp only [ev, lk, Nat.reduceEqDiff, if_true, if_false]) (fun _ => W.skip ?_) (fun h => absurd h (by simp))
    rw [thn_normal]
    refine hK _ ?_
    refine W.blockK ?_
    refine W.region tt_ok ?_
    simp only [exOps_nil, exOps_cons, exOp_eq, exCall_eq, nx_eq, cur_eq, evL, evP, stepQ, ev, ofV, lk, putT, erA, inB, opt, bnd, req, ret, onQ, ap, up, er, AV.isTup, AV.isAgg, intsOf, Kd.agg, comps, szL, csize, takeI, takeC, dropC, stC, stS, bltQ, bltV, appQ, appV, srcQ, Row.len, Row.sz, Row.take, Row.drop, Row.app, Ent.row, bldA, bslQ, zeroCs, cellsRow, thn_normal, inb_normal, and_true, true_and, and_self, and_false, or_false, Nat.reduceEqDiff, Nat.reduceLT, Nat.reduceLeDiff, Nat.reduceAdd, Nat.reduceSub, Nat.reduceMul, Nat.sub_self, Nat.le_refl, Nat.add_zero, Nat.zero_add, if_true, if_false, Bool.false_eq_true, Option.bind_some, Option.map_some, List.append_nil, List.nil_append, List.cons_append, tt_5, tt_24, hzl, hzt, List.replicate_succ, List.replicate_zero, List.set_cons_zero, List.length_cons, List.length_nil, List.drop_zero, List.take_succ_cons, List.take_zero, Nat.one_ne_zero, Nat.zero_add]
    repeat (refine ⟨by omega, ?_⟩)
    refine hK3 _ (j + 1) 1120 48 (by omega) (by omega) ⟨⟨by simp [Nm, lk], by simp [Nm, lk]⟩, by simp, by simp⟩ ?_
    rw [List.replicate_succ', ← List.append_assoc]
    simp [Nat.add_assoc, St.swap, tmMap, enMap, swp, AV.map, Ent.map, Row.map, wk, leL, lk, nmT, nmE, nmH, AV.nmIn, Ent.nmIn, Row.nmIn]
  · have hjj : j = (16 - b.length % 16) % 16 := by omega
    have c7 : ¬ (0 : Int) < (((b.length + j) % 16 : Nat) : Int) := by omega
    have hp : b ++ List.replicate j 0 = padL b := by rw [hjj]; rfl
    refine W.seqK fun K hK => W.regionK tt_ok ?_
    simp only [decide_false, exOps_nil, exOps_cons, exOp_eq, exCall_eq, nx_eq, cur_eq, evL, stepQ, ev, ofV, lk, putT, erA, inB, opt, bnd, req, ret, onQ, ap, binG, binF, intF, bltQ, bltV, lenF, and_true, true_and, and_self, or_false, Nat.reduceEqDiff, Nat.reduceLT, Nat.reduceAdd, if_true, if_false, ne_eq, List.getElem?_cons_zero, Option.bind_some, Option.map_some, tt_24, hq, c7]
    repeat (refine ⟨by omega, ?_⟩)
    refine hK _ ?_
    clear hK K
    refine W.cond (b := false) (by simp only [ev, lk, Nat.reduceEqDiff, if_true, if_false]) (fun h => absurd h (by simp)) (fun _ => W.exit ?_)
    simp only [thn_normal, thn_exit, inb_exit, if_true]
    refine hKz _ ?_
    refine W.seqK fun K hK => W.regionK tt_ok ?_
    simp only [exOps_nil, exOps_cons, exOp_eq, nx_eq, cur_eq, stepQ, ev, lk, putT, erA, inB, opt, ret, onQ, ap, true_and, Nat.reduceEqDiff, Nat.reduceLT, Nat.reduceAdd, if_true, if_false]
    refine hK _ ?_
    clear hK K
    rw [← hzl, hp]
    refine W.ret ?_
    simp only [fin_ret, finB, resQ, resV, leL, AV.nmIn, entsIn, lk, opt, bnd, req, ret, onQ, AV.isTup, and_true, true_and, and_self, Nat.reduceEqDiff, if_true, if_false]
    simp [Nm, lk, Ent.nmIn, Row.nmIn]
theorem padR_at (X : Nat) (b : List Int) (hb : b.length ≤ 100000) : FnR Tryd.prog G 25 [.lstI .u8 b] [] (.sl X 1 0 (padL b).length) [(X, .vec 5 (.ints .u8 (padL b)))] := by
  have h := (padR_own b hb).rename 48 X
  simpa [AV.map, swp, enMap, Ent.map, Row.map] using h
end Go.Proofs.YtakgcmponelbeaaDoor
