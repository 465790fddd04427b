/- The stream's block. -/
import Derived.Test.YtakgcmponelbeaaDoorAmA
-- TT 3 5 22 36 38 24 51 59 60 61 77 78
-- TOUCH 28 2
set_option linter.unusedVariables false
set_option linter.unusedSimpArgs false
namespace Go.Proofs.YtakgcmponelbeaaDoor.Sm
open Sx
set_option maxRecDepth 100000
set_option maxHeartbeats 4000000
def keyW (key : List Int) : Nat → List Int
  | 0 => firstL ++ List.replicate 12 0
  | i + 1 => (keyW key i).set (4 + i) (word4 ((key.drop (4 * i)).take (32 - 4 * i)))
def nonW (w nonce : List Int) : Nat → List Int
  | 0 => w
  | i + 1 => (nonW w nonce i).set (13 + i) (word4 ((nonce.drop (4 * i)).take (12 - 4 * i)))
def initW (key nonce : List Int) (count : Int) : List Int := nonW ((keyW key 8).set 12 count) nonce 3
def colR (x : List Int) : Nat → List Int
  | 0 => x
  | i + 1 => qrt (colR x i) i (i + 4) (i + 8) (i + 12)
def diaR (x : List Int) : Nat → List Int
  | 0 => x
  | i + 1 => qrt (diaR x i) i (4 + (i + 1) % 4) (8 + (i + 2) % 4) (12 + (i + 3) % 4)
def rndS (x : List Int) : Nat → List Int
  | 0 => x
  | r + 1 => diaR (colR (rndS x r) 4) 4
def outB (x w : List Int) : Nat → List Int
  | 0 => List.replicate 64 0
  | i + 1 => (outB x w i).set i (IntKind.u8.wrap ((IntKind.u32.wrap (x.getD (i / 4) 0 + w.getD (i / 4) 0)).fdiv (2 ^ min (8 * (i % 4)) 32)))
def blockS (key nonce : List Int) (count : Int) : List Int := outB (rndS (initW key nonce count) 10) (initW key nonce count) 64
theorem qrt_len (w : List Int) (a b c d : Nat) : (qrt w a b c d).length = w.length := by simp [qrt, qStep_len]
theorem keyW_len (key : List Int) : ∀ i, (keyW key i).length = 16
  | 0 => by simp [keyW, firstL]
  | i + 1 => by simp [keyW, keyW_len key i]
theorem nonW_len (w nonce : List Int) : ∀ i, (nonW w nonce i).length = w.length
  | 0 => rfl
  | i + 1 => by simp [nonW, nonW_len w nonce i]
theorem initW_len (key nonce : List Int) (count : Int) : (initW key nonce count).length = 16 := by simp [initW, nonW_len, keyW_len]
theorem colR_len (x : List Int) : ∀ i, (colR x i).length = x.length
  | 0 => rfl
  | i + 1 => by simp [colR, qrt_len, colR_len x i]
theorem diaR_len (x : List Int) : ∀ i, (diaR x i).length = x.length
  | 0 => rfl
  | i + 1 => by simp [diaR, qrt_len, diaR_len x i]
theorem rndS_len (x : List Int) : ∀ i, (rndS x i).length = x.length
  | 0 => rfl
  | i + 1 => by simp [rndS, diaR_len, colR_len, rndS_len x i]
theorem outB_len (x w : List Int) : ∀ i, (outB x w i).length = 64
  | 0 => by simp [outB]
  | i + 1 => by simp [outB, outB_len x w i]
theorem call28 : Callable Tryd.prog 28 := ⟨_, Tryd.func28, by kernel_rfl, by kernel_rfl⟩
theorem block_fn (key nonce : List Int) (count : Int) (hk : key.length = 32) (hn : nonce.length = 12) :
    FnR Tryd.prog G 20 [.agg [.ints .u8 32 key], .agg [.ints .u8 12 nonce], .int .u32 count] [] (.agg [.ints .u8 64 (blockS key nonce count)]) [] := by
  refine FnR.of_walk (m := 97) (n0 := 0) tt_ok Tryd.func20 rfl rfl (by simp) (by simp [nmH]) ?_
  rw [show Tryd.f20.results.toList = [.cell 6 51] from rfl]
  refine W.seqK fun K hK => W.regionK tt_ok ?_
  simp only [exOps_nil, exOps_cons, exOp_eq, nx_eq, cur_eq, stepQ, ev, lk, parT, putT, erA, inB, opt, req, ret, onQ, ap, up, er, AV.isTup, true_and, and_self, Nat.reduceEqDiff, Nat.reduceLT, Nat.reduceAdd, Nat.zero_add, if_true, if_false, reduceCtorEq, tt_51]
  refine hK _ ?_
  clear hK K
  refine W.seqK fun K hK => W.regionK tt_ok ?_
  simp only [exOps_nil, exOps_cons, exOp_eq, nx_eq, cur_eq, stepQ, putT, erA, inB, opt, ret, onQ, ap, up, er, true_and, Nat.reduceEqDiff, Nat.reduceLT, Nat.reduceAdd, if_false, reduceCtorEq, tt_59]
  refine hK _ ?_
  clear hK K
  have e1 : List.drop 0 (List.take 4 firstL) = firstL := rfl
  have e2 : firstL.length = 4 := rfl
  have e3 : List.take 0 (List.replicate 16 (0 : Int)) ++ List.take (min 4 16) firstL ++ List.drop (List.take (min 4 16) firstL).length (List.replicate 16 (0 : Int)) = keyW key 0 := rfl
  refine W.seqK fun K hK => W.drawK [⟨0, false, []⟩, ⟨0, false, []⟩, ⟨2, false, [0, 1]⟩] mix tt_ok (by kernel_rfl) ?_
  simp only [exOp_eq, exCall_eq, exD_nil, exD_cons, nxD_eq, cur_eq, flI, ownB, evL, stepQ, ev, lk, putT, erA, inB, opt, bnd, req, ret, onQ, ap, up, er, comps, szL, csize, bltQ, bltV, slF, bd, bds, copyQ, srcQ, rowOf, Row.len, Row.sz, Row.take, Ent.put, Ent.row, and_true, true_and, and_self, or_false, Nat.reduceEqDiff, Nat.reduceLT, Nat.reduceLeDiff, Nat.reduceAdd, Nat.reduceSub, Nat.reduceMul, Nat.add_zero, Nat.zero_add, if_true, if_false, reduceCtorEq, Option.bind_some, Option.map_some, tt_38, tt_59, tt_60, tt_61, G, e1, e2, e3]
  refine ⟨by simp, ?_⟩
  refine hK _ ?_
  clear hK K
  refine W.seqK fun K hK => ?_
  refine W.seqK fun K hK => W.regionK tt_ok ?_
  simp only [exOps_nil, exOps_cons, exOp_eq, nx_eq, cur_eq, stepQ, ev, ofV, putT, erA, inB, opt, ret, onQ, ap, true_and, Nat.reduceEqDiff, Nat.reduceLT, Nat.reduceAdd, if_false, reduceCtorEq]
  refine hK _ ?_
  clear hK K
  refine W.blockK ?_
  refine W.loopK (fun i : Nat => i ≤ 8) (fun i => ⟨[(2, .int .u32 count), (3, .ptr 0 0 0 1), (4, .ptr 16 0 0 1), (6, .ptr 32 0 0 1), (7, .ptr 48 0 0 1), (18, .int .i64 i)], [(0, .obj 22 (.agg [.ints .u8 32 key])), (16, .obj 36 (.agg [.ints .u8 12 nonce])), (32, .obj 51 (.agg [.ints .u8 64 (List.replicate 64 0)])), (48, .obj 59 (.agg [.ints .u32 16 (keyW key i)]))], 112, 97⟩) (fun i => 8 - i) 0 (by simp) (by simp [wk, leL, lk, nmT, nmE, nmH, AV.nmIn, AV.nmInL, Ent.nmIn]) ?_
  intro i hi K3 hK3
  refine W.seqK fun K hK => W.regionK tt_ok ?_
  simp only [exOps_nil, exOps_cons, exOp_eq, nx_eq, cur_eq, stepQ, ev, ofV, lk, putT, erA, inB, opt, bnd, req, ret, onQ, ap, binG, binF, intF, true_and, and_self, Nat.reduceEqDiff, Nat.reduceLT, Nat.reduceAdd, if_true, if_false]
  refine hK _ ?_
  clear hK K
  refine W.seqK fun K hK => W.cond (b := decide ((i : Int) < 8)) (by simp only [ev, lk, Nat.reduceEqDiff, if_true, if_false]) (fun hb => W.skip ?_) (fun hb => W.exit ?_)
  · rw [thn_normal]
    have hlt : i < 8 := by have := of_decide_eq_true hb; omega
    have hwl := keyW_len key i
    have w1 : IntKind.i64.wrap (4 + (i : Int)) = ((4 + i : Nat) : Int) := by rw [IntKind.wrap_i64]; omega
    have w2 : IntKind.i64.wrap (4 * (i : Int)) = ((4 * i : Nat) : Int) := by rw [IntKind.wrap_i64]; omega
    refine hK _ ?_
    clear hK K
    refine W.seqK fun K hK => W.blockK ?_
    refine W.seqK fun K hK => W.regionK tt_ok ?_
    simp only [exOps_nil, exOps_cons, exOp_eq, nx_eq, cur_eq, stepQ, ev, lk, putT, erA, inB, opt, ret, onQ, ap, true_and, Nat.reduceEqDiff, Nat.reduceLT, Nat.reduceAdd, if_true, if_false]
    refine hK _ ?_
    clear hK K
    refine W.region tt_ok ?_
    simp only [exOps_cons, exOp_eq, exCall_eq, nx_eq, cur_eq, evL, stepQ, ev, ofV, lk, putT, erA, inB, opt, bnd, req, ret, onQ, ap, binG, binF, intF, comps, szL, csize, slF, bd, bds, and_true, true_and, and_self, Nat.reduceEqDiff, Nat.reduceLT, Nat.reduceLeDiff, Nat.reduceAdd, Nat.reduceMul, Int.toNat_natCast, Nat.add_zero, if_true, if_false, reduceCtorEq, Option.bind_some, Option.map_some, tt_5, tt_22, w1, w2]
    repeat (refine ⟨by omega, ?_⟩)
    refine CallK.pure _ _ (word_fn ((key.drop (4 * i)).take (32 - 4 * i)) (by rw [List.length_take, List.length_drop]; omega)) call27 (by simp only [Bool.or_false, lk, opt, bnd, req, ret, onQ, AV.isTup, isTupL, Ent.row, and_true, true_and, and_self, if_true, if_false, reduceCtorEq, forall_const, List.append_nil, vw.vwL, vw, viewR, AV.free, Ent.row, Bool.or_self]; all_goals (and_intros <;> first | exact AV.subL_refl _ | omega | rfl | (simp [AV.subL_refl]; done) | (simp; exact AV.subL_refl _) | (simp [AV.subL, AV.sub]; done))) ?_
    simp only [exOps_nil, exOps_cons, exOp_eq, nx_eq, cur_eq, stepQ, ev, lk, putT, erA, inB, opt, bnd, req, ret, onQ, ap, up, er, AV.isTup, AV.isAgg, Kd.elem, Kd.isInt, ixA, asI, Kd.agg, comps, csize, takeI, takeC, dropC, stP, stE, stC, stS, thn_normal, inb_normal, and_true, true_and, and_self, Nat.reduceEqDiff, Nat.reduceLT, Nat.reduceLeDiff, Nat.reduceAdd, Nat.reduceSub, Int.toNat_natCast, Nat.zero_add, if_true, if_false, Bool.false_eq_true, reduceCtorEq, Option.bind_some, Option.map_some, tt_38, tt_59]
    repeat (refine ⟨by omega, ?_⟩)
    refine hK _ ?_
    clear hK K
    refine W.region tt_ok ?_
    simp only [exOps_nil, exOps_cons, exOp_eq, nx_eq, cur_eq, stepQ, ev, ofV, lk, putT, erA, inB, opt, bnd, req, ret, onQ, ap, binG, binF, intF, thn_normal, true_and, and_self, Nat.reduceEqDiff, Nat.reduceLT, Nat.reduceAdd, if_true, if_false, wrap_up i (by omega)]
    refine hK3 _ (i + 1) (by omega) (by omega) ?_
    simp [wk, leL, lk, nmT, nmE, nmH, AV.nmIn, AV.nmInL, Ent.nmIn, keyW]
  simp only [thn_normal, thn_exit, inb_exit, if_true]
  clear hK K
  have hk8 : i = 8 := by have := of_decide_eq_false hb; omega
  subst hk8
  have hwl := keyW_len key 8
  refine hK _ ?_
  clear hK K
  refine W.seqK fun K hK => W.regionK tt_ok ?_
  simp only [exOps_nil, exOps_cons, exOp_eq, nx_eq, cur_eq, stepQ, ev, ofV, lk, putT, erA, inB, opt, bnd, req, ret, onQ, ap, up, er, AV.isTup, AV.isAgg, Kd.elem, Kd.isInt, ixA, asI, Kd.agg, comps, csize, takeI, takeC, dropC, stP, stE, stC, stS, and_true, true_and, and_self, Nat.reduceEqDiff, Nat.reduceLT, Nat.reduceLeDiff, Nat.reduceAdd, Nat.reduceSub, Nat.reduceMul, Int.reduceLE, Int.reduceToNat, Nat.zero_add, if_true, if_false, Bool.false_eq_true, reduceCtorEq, Option.bind_some, Option.map_some, tt_38, tt_59]
  repeat (refine ⟨by omega, ?_⟩)
  refine hK _ ?_
  clear hK K
  refine W.seqK fun K hK => ?_
  refine W.seqK fun K hK => W.regionK tt_ok ?_
  simp only [exOps_nil, exOps_cons, exOp_eq, nx_eq, cur_eq, stepQ, ev, ofV, putT, erA, inB, opt, ret, onQ, ap, true_and, Nat.reduceEqDiff, Nat.reduceLT, Nat.reduceAdd, if_false]
  refine hK _ ?_
  clear hK K
  refine W.blockK ?_
  refine W.loopK (fun i : Nat => i ≤ 3) (fun i => ⟨[(2, .int .u32 count), (3, .ptr 0 0 0 1), (4, .ptr 16 0 0 1), (6, .ptr 32 0 0 1), (7, .ptr 48 0 0 1), (31, .int .i64 i)], [(0, .obj 22 (.agg [.ints .u8 32 key])), (16, .obj 36 (.agg [.ints .u8 12 nonce])), (32, .obj 51 (.agg [.ints .u8 64 (List.replicate 64 0)])), (48, .obj 59 (.agg [.ints .u32 16 (nonW ((keyW key 8).set 12 count) nonce i)]))], 512, 97⟩) (fun i => 3 - i) 0 (by simp) (by simp [wk, leL, lk, nmT, nmE, nmH, AV.nmIn, AV.nmInL, Ent.nmIn, nonW]) ?_
  intro i hi K3 hK3
  refine W.seqK fun K hK => W.regionK tt_ok ?_
  simp only [exOps_nil, exOps_cons, exOp_eq, nx_eq, cur_eq, stepQ, ev, ofV, lk, putT, erA, inB, opt, bnd, req, ret, onQ, ap, binG, binF, intF, true_and, and_self, Nat.reduceEqDiff, Nat.reduceLT, Nat.reduceAdd, if_true, if_false]
  refine hK _ ?_
  clear hK K
  refine W.seqK fun K hK => W.cond (b := decide ((i : Int) < 3)) (by simp only [ev, lk, Nat.reduceEqDiff, if_true, if_false]) (fun hb => W.skip ?_) (fun hb => W.exit ?_)
  · rw [thn_normal]
    have hlt : i < 3 := by have := of_decide_eq_true hb; omega
    have hwl2 : (nonW ((keyW key 8).set 12 count) nonce i).length = 16 := by simp [nonW_len, hwl]
    have w1 : IntKind.i64.wrap (13 + (i : Int)) = ((13 + i : Nat) : Int) := by rw [IntKind.wrap_i64]; omega
    have w2 : IntKind.i64.wrap (4 * (i : Int)) = ((4 * i : Nat) : Int) := by rw [IntKind.wrap_i64]; omega
    refine hK _ ?_
    clear hK K
    refine W.seqK fun K hK => W.blockK ?_
    refine W.seqK fun K hK => W.regionK tt_ok ?_
    simp only [exOps_nil, exOps_cons, exOp_eq, nx_eq, cur_eq, stepQ, ev, lk, putT, erA, inB, opt, ret, onQ, ap, true_and, Nat.reduceEqDiff, Nat.reduceLT, Nat.reduceAdd, if_true, if_false]
    refine hK _ ?_
    clear hK K
    refine W.region tt_ok ?_
    simp only [exOps_cons, exOp_eq, exCall_eq, nx_eq, cur_eq, evL, stepQ, ev, ofV, lk, putT, erA, inB, opt, bnd, req, ret, onQ, ap, binG, binF, intF, comps, szL, csize, slF, bd, bds, and_true, true_and, and_self, Nat.reduceEqDiff, Nat.reduceLT, Nat.reduceLeDiff, Nat.reduceAdd, Nat.reduceMul, Int.toNat_natCast, Nat.add_zero, if_true, if_false, reduceCtorEq, Option.bind_some, Option.map_some, tt_5, tt_36, w1, w2]
    repeat (refine ⟨by omega, ?_⟩)
    refine CallK.pure _ _ (word_fn ((nonce.drop (4 * i)).take (12 - 4 * i)) (by rw [List.length_take, List.length_drop]; omega)) call27 (by simp only [Bool.or_false, lk, opt, bnd, req, ret, onQ, AV.isTup, isTupL, Ent.row, and_true, true_and, and_self, Nat.reduceEqDiff, if_true, if_false, reduceCtorEq, forall_const, List.append_nil, vw.vwL, vw, viewR, AV.free, Ent.row, Bool.or_self]; all_goals (and_intros <;> first | exact AV.subL_refl _ | omega | rfl | (simp [AV.subL_refl]; done) | (simp; exact AV.subL_refl _) | (simp [AV.subL, AV.sub]; done))) ?_
    simp only [exOps_nil, exOps_cons, exOp_eq, nx_eq, cur_eq, stepQ, ev, lk, putT, erA, inB, opt, bnd, req, ret, onQ, ap, up, er, AV.isTup, AV.isAgg, Kd.elem, Kd.isInt, ixA, asI, Kd.agg, comps, csize, takeI, takeC, dropC, stP, stE, stC, stS, thn_normal, inb_normal, and_true, true_and, and_self, Nat.reduceEqDiff, Nat.reduceLT, Nat.reduceLeDiff, Nat.reduceAdd, Nat.reduceSub, Int.toNat_natCast, Nat.zero_add, if_true, if_false, Bool.false_eq_true, reduceCtorEq, Option.bind_some, Option.map_some, tt_38, tt_59]
    repeat (refine ⟨by omega, ?_⟩)
    refine hK _ ?_
    clear hK K
    refine W.region tt_ok ?_
    simp only [exOps_nil, exOps_cons, exOp_eq, nx_eq, cur_eq, stepQ, ev, ofV, lk, putT, erA, inB, opt, bnd, req, ret, onQ, ap, binG, binF, intF, thn_normal, true_and, and_self, Nat.reduceEqDiff, Nat.reduceLT, Nat.reduceAdd, if_true, if_false, wrap_up i (by omega)]
    refine hK3 _ (i + 1) (by omega) (by omega) ?_
    simp [wk, leL, lk, nmT, nmE, nmH, AV.nmIn, AV.nmInL, Ent.nmIn, nonW]
  simp only [thn_normal, thn_exit, inb_exit, if_true]
  clear hK K
  have hk3 : i = 3 := by have := of_decide_eq_false hb; omega
  subst hk3
  have hw : nonW ((keyW key 8).set 12 count) nonce 3 = initW key nonce count := rfl
  rw [hw]
  have hwl3 := initW_len key nonce count
  obtain ⟨w, hww⟩ : ∃ w, initW key nonce count = w := ⟨_, rfl⟩
  rw [hww] at hwl3 ⊢
  clear hw hwl
  refine hK _ ?_
  clear hK K
  refine W.weak ⟨[(2, .int .u32 count), (3, .ptr 0 0 0 1), (4, .ptr 16 0 0 1), (6, .ptr 32 0 0 1), (7, .ptr 48 0 0 1)], [(0, .obj 22 (.agg [.ints .u8 32 key])), (16, .obj 36 (.agg [.ints .u8 12 nonce])), (32, .obj 51 (.agg [.ints .u8 64 (List.replicate 64 0)])), (48, .obj 59 (.agg [.ints .u32 16 (w)]))], 984, 97⟩ (by simp [wk, leL, lk, nmT, nmE, nmH, AV.nmIn, AV.nmInL, Ent.nmIn]) ?_
  refine W.seqK fun K hK => W.regionK tt_ok ?_
  simp only [exOps_nil, exOps_cons, exOp_eq, nx_eq, cur_eq, stepQ, ev, lk, putT, erA, inB, opt, bnd, req, ret, onQ, ap, up, er, AV.isAgg, ldP, ldE, ldC, ldS, Kd.agg, comps, szL, csize, takeI, takeC, dropC, stP, stE, stC, stS, true_and, and_self, Nat.reduceEqDiff, Nat.reduceLT, Nat.reduceLeDiff, Nat.reduceAdd, Nat.reduceSub, Nat.sub_self, Nat.le_refl, Nat.add_zero, Nat.zero_add, if_true, if_false, reduceCtorEq, Option.bind_some, Option.map_some, List.append_nil, List.nil_append, tt_59]
  refine hK _ ?_
  clear hK K
  refine W.seqK fun K hK => ?_
  refine W.seqK fun K hK => W.regionK tt_ok ?_
  simp only [exOps_nil, exOps_cons, exOp_eq, nx_eq, cur_eq, stepQ, ev, ofV, putT, erA, inB, opt, ret, onQ, ap, true_and, Nat.reduceEqDiff, Nat.reduceLT, Nat.reduceAdd, if_false]
  refine hK _ ?_
  clear hK K
  refine W.blockK ?_
  refine W.loopK (fun r : Nat => r ≤ 10) (fun r => ⟨[(2, .int .u32 count), (3, .ptr 0 0 0 1), (4, .ptr 16 0 0 1), (6, .ptr 32 0 0 1), (7, .ptr 48 0 0 1), (10, .ptr 1000 0 0 1), (43, .int .i64 r)], (1000, .obj 59 (.agg [.ints .u32 16 (rndS w r)])) :: [(0, .obj 22 (.agg [.ints .u8 32 key])), (16, .obj 36 (.agg [.ints .u8 12 nonce])), (32, .obj 51 (.agg [.ints .u8 64 (List.replicate 64 0)])), (48, .obj 59 (.agg [.ints .u32 16 (w)]))], 1048, 97⟩) (fun r => 10 - r) 0 (by simp) (by simp [wk, leL, lk, nmT, nmE, nmH, AV.nmIn, AV.nmInL, Ent.nmIn, rndS]) ?_
  intro r hr K3 hK3
  refine W.seqK fun K hK => W.regionK tt_ok ?_
  simp only [exOps_nil, exOps_cons, exOp_eq, nx_eq, cur_eq, stepQ, ev, ofV, lk, putT, erA, inB, opt, bnd, req, ret, onQ, ap, binG, binF, intF, true_and, and_self, Nat.reduceEqDiff, Nat.reduceLT, Nat.reduceAdd, if_true, if_false]
  refine hK _ ?_
  clear hK K
  refine W.seqK fun K hK => W.cond (b := decide ((r : Int) < 10)) (by simp only [ev, lk, Nat.reduceEqDiff, if_true, if_false]) (fun hb => W.skip ?_) (fun hb => W.exit ?_)
  · rw [thn_normal]
    have hlt : r < 10 := by have := of_decide_eq_true hb; omega
    have hxl : (rndS w r).length = 16 := by rw [rndS_len, hwl3]
    obtain ⟨x, hx⟩ : ∃ x, rndS w r = x := ⟨_, rfl⟩
    rw [hx] at hxl ⊢
    refine hK _ ?_
    clear hK K
    refine W.seqK fun K hK => W.blockK ?_
    refine W.seqK fun Ka hKa => ?_
    refine W.seqK fun K hK => W.regionK tt_ok ?_
    simp only [exOps_nil, exOps_cons, exOp_eq, nx_eq, cur_eq, stepQ, ev, ofV, putT, erA, inB, opt, ret, onQ, ap, true_and, Nat.reduceEqDiff, Nat.reduceLT, Nat.reduceAdd, if_false]
    refine hK _ ?_
    clear hK K
    refine W.blockK ?_
    refine W.loopK (fun i : Nat => i ≤ 4) (fun i => ⟨[(2, .int .u32 count), (3, .ptr 0 0 0 1), (4, .ptr 16 0 0 1), (6, .ptr 32 0 0 1), (7, .ptr 48 0 0 1), (10, .ptr 1000 0 0 1), (43, .int .i64 r), (45, .int .i64 i)], (1000, .obj 59 (.agg [.ints .u32 16 (colR x i)])) :: [(0, .obj 22 (.agg [.ints .u8 32 key])), (16, .obj 36 (.agg [.ints .u8 12 nonce])), (32, .obj 51 (.agg [.ints .u8 64 (List.replicate 64 0)])), (48, .obj 59 (.agg [.ints .u32 16 (w)]))], 1148, 97⟩) (fun i => 4 - i) 0 (by simp) (by simp [wk, leL, lk, nmT, nmE, nmH, AV.nmIn, AV.nmInL, Ent.nmIn, colR]) ?_
    intro i hi K4 hK4
    refine W.seqK fun K hK => W.regionK tt_ok ?_
    simp only [exOps_nil, exOps_cons, exOp_eq, nx_eq, cur_eq, stepQ, ev, ofV, lk, putT, erA, inB, opt, bnd, req, ret, onQ, ap, binG, binF, intF, true_and, and_self, Nat.reduceEqDiff, Nat.reduceLT, Nat.reduceAdd, if_true, if_false]
    refine hK _ ?_
    clear hK K
    refine W.seqK fun K hK => W.cond (b := decide ((i : Int) < 4)) (by simp only [ev, lk, Nat.reduceEqDiff, if_true, if_false]) (fun hb' => W.skip ?_) (fun hb' => W.exit ?_)
    · rw [thn_normal]
      have hlt' : i < 4 := by have := of_decide_eq_true hb'; omega
      have hcl : (colR x i).length = 16 := by rw [colR_len, hxl]
      have w1 : IntKind.i64.wrap ((i : Int) + 4) = ((i + 4 : Nat) : Int) := by rw [IntKind.wrap_i64]; omega
      have w2 : IntKind.i64.wrap ((i : Int) + 8) = ((i + 8 : Nat) : Int) := by rw [IntKind.wrap_i64]; omega
      have w3 : IntKind.i64.wrap ((i : Int) + 12) = ((i + 12 : Nat) : Int) := by rw [IntKind.wrap_i64]; omega
      refine hK _ ?_
      clear hK K
      refine W.seqK fun K hK => W.blockK ?_
      refine W.seqK fun K hK => W.regionK tt_ok ?_
      simp only [exOps_nil, exOps_cons, exOp_eq, nx_eq, cur_eq, stepQ, ev, lk, putT, erA, inB, opt, ret, onQ, ap, true_and, Nat.reduceEqDiff, Nat.reduceLT, Nat.reduceAdd, if_true, if_false]
      refine hK _ ?_
      clear hK K
      refine W.region tt_ok ?_
      simp only [exOps_cons, exOp_eq, exCall_eq, nx_eq, cur_eq, evL, stepQ, ev, ofV, lk, putT, erA, inB, opt, bnd, req, ret, onQ, ap, binG, binF, intF, true_and, and_self, Nat.reduceEqDiff, Nat.reduceLT, Nat.reduceAdd, if_true, if_false, Option.bind_some, Option.map_some, w1, w2, w3]
      refine CallK.with [(1000, .obj 59 (.agg [.ints .u32 16 (colR x i)]))] [(1000, .obj 59 (.agg [.ints .u32 16 (qrt (colR x i) i (i + 4) (i + 8) (i + 12))]))] _ _ (quarter_fn (colR x i) i (i + 4) (i + 8) (i + 12) hcl (by omega) (by omega) (by omega) (by omega)) call28 (by simp only [AV.nmIn, bnd, req, ret, onQ, AV.isTup, isTupL, and_true, true_and, and_self, Bool.false_eq_true, List.append_nil, vw.vwL, vw, AV.free, AV.freeL, Bool.or_self]; all_goals (and_intros <;> first | exact AV.subL_refl _ | omega | rfl | (simp []; done) | (simp [AV.subL, AV.sub, entsFree]; done))) (by simp [leL, lk]) (by intro n hn; first | (left; revert hn; simp [Nm, lk]; done) | (right; revert hn; simp only [Nm, lk]; split <;> simp <;> omega)) (by simp [entsIn, Ent.nmIn, AV.nmIn, AV.nmInL]) ?_
      simp only [callDel, exOps_nil, nx_eq, putT, erA, ap, up, er, thn_normal, inb_normal, Nat.reduceEqDiff, Nat.reduceAdd, if_true, if_false, reduceCtorEq, List.nil_append, List.cons_append, List.map_cons, List.map_nil, List.reverse_cons, List.reverse_nil]
      refine hK _ ?_
      clear hK K
      refine W.region tt_ok ?_
      simp only [exOps_nil, exOps_cons, exOp_eq, nx_eq, cur_eq, stepQ, ev, ofV, lk, putT, erA, inB, opt, bnd, req, ret, onQ, ap, binG, binF, intF, thn_normal, true_and, and_self, Nat.reduceEqDiff, Nat.reduceLT, Nat.reduceAdd, if_true, if_false, wrap_up i (by omega)]
      refine hK4 _ (i + 1) (by omega) (by omega) ?_
      simp [wk, leL, lk, nmT, nmE, nmH, AV.nmIn, AV.nmInL, Ent.nmIn, colR]
    simp only [thn_normal, thn_exit, inb_exit, Nat.reduceEqDiff, if_true, if_false]
    clear hK K
    have hk4 : i = 4 := by have := of_decide_eq_false hb'; omega
    subst hk4
    refine hKa _ ?_
    clear hKa Ka
    obtain ⟨y, hy⟩ : ∃ y, colR x 4 = y := ⟨_, rfl⟩
    have hyl : y.length = 16 := by rw [← hy, colR_len, hxl]
    rw [hy]
    refine W.seqK fun K hK => W.regionK tt_ok ?_
    simp only [exOps_nil, exOps_cons, exOp_eq, nx_eq, cur_eq, stepQ, ev, ofV, putT, erA, inB, opt, ret, onQ, ap, true_and, Nat.reduceEqDiff, Nat.reduceLT, Nat.reduceAdd, if_false]
    refine hK _ ?_
    clear hK K
    refine W.blockK ?_
    refine W.loopK (fun i : Nat => i ≤ 4) (fun i => ⟨[(2, .int .u32 count), (3, .ptr 0 0 0 1), (4, .ptr 16 0 0 1), (6, .ptr 32 0 0 1), (7, .ptr 48 0 0 1), (10, .ptr 1000 0 0 1), (43, .int .i64 r), (57, .int .i64 i)], (1000, .obj 59 (.agg [.ints .u32 16 (diaR y i)])) :: [(0, .obj 22 (.agg [.ints .u8 32 key])), (16, .obj 36 (.agg [.ints .u8 12 nonce])), (32, .obj 51 (.agg [.ints .u8 64 (List.replicate 64 0)])), (48, .obj 59 (.agg [.ints .u32 16 (w)]))], 1248, 97⟩) (fun i => 4 - i) 0 (by simp) (by simp [wk, leL, lk, nmT, nmE, nmH, AV.nmIn, AV.nmInL, Ent.nmIn, diaR]) ?_
    intro i hi K4 hK4
    refine W.seqK fun K hK => W.regionK tt_ok ?_
    simp only [exOps_nil, exOps_cons, exOp_eq, nx_eq, cur_eq, stepQ, ev, ofV, lk, putT, erA, inB, opt, bnd, req, ret, onQ, ap, binG, binF, intF, true_and, and_self, Nat.reduceEqDiff, Nat.reduceLT, Nat.reduceAdd, if_true, if_false]
    refine hK _ ?_
    clear hK K
    refine W.seqK fun K hK => W.cond (b := decide ((i : Int) < 4)) (by simp only [ev, lk, Nat.reduceEqDiff, if_true, if_false]) (fun hb' => W.skip ?_) (fun hb' => W.exit ?_)
    · rw [thn_normal]
      have hlt' : i < 4 := by have := of_decide_eq_true hb'; omega
      have hcl : (diaR y i).length = 16 := by rw [diaR_len, hyl]
      have md : ∀ n : Nat, Int.tmod (n : Int) 4 = ((n % 4 : Nat) : Int) := fun n => by rw [Int.tmod_eq_emod_of_nonneg (by omega)]; omega
      have u1 : IntKind.i64.wrap ((i : Int) + 1) = ((i + 1 : Nat) : Int) := by rw [IntKind.wrap_i64]; omega
      have u2 : IntKind.i64.wrap ((i : Int) + 2) = ((i + 2 : Nat) : Int) := by rw [IntKind.wrap_i64]; omega
      have u3 : IntKind.i64.wrap ((i : Int) + 3) = ((i + 3 : Nat) : Int) := by rw [IntKind.wrap_i64]; omega
      have v1 : IntKind.i64.wrap (4 + (((i + 1) % 4 : Nat) : Int)) = ((4 + (i + 1) % 4 : Nat) : Int) := by rw [IntKind.wrap_i64]; omega
      have v2 : IntKind.i64.wrap (8 + (((i + 2) % 4 : Nat) : Int)) = ((8 + (i + 2) % 4 : Nat) : Int) := by rw [IntKind.wrap_i64]; omega
      have v3 : IntKind.i64.wrap (12 + (((i + 3) % 4 : Nat) : Int)) = ((12 + (i + 3) % 4 : Nat) : Int) := by rw [IntKind.wrap_i64]; omega
      refine hK _ ?_
      clear hK K
      refine W.seqK fun K hK => W.blockK ?_
      refine W.seqK fun K hK => W.regionK tt_ok ?_
      simp only [exOps_nil, exOps_cons, exOp_eq, nx_eq, cur_eq, stepQ, ev, lk, putT, erA, inB, opt, ret, onQ, ap, true_and, Nat.reduceEqDiff, Nat.reduceLT, Nat.reduceAdd, if_true, if_false]
      refine hK _ ?_
      clear hK K
      refine W.region tt_ok ?_
      simp only [exOps_cons, exOp_eq, exCall_eq, nx_eq, cur_eq, evL, stepQ, ev, ofV, lk, putT, erA, inB, opt, bnd, req, ret, onQ, ap, binG, binF, intF, and_true, true_and, and_self, Nat.reduceEqDiff, Nat.reduceLT, Nat.reduceAdd, if_true, if_false, ne_eq, Option.bind_some, Option.map_some, u1, u2, u3, md, v1, v2, v3]
      repeat (refine ⟨by omega, ?_⟩)
      refine CallK.with [(1000, .obj 59 (.agg [.ints .u32 16 (diaR y i)]))] [(1000, .obj 59 (.agg [.ints .u32 16 (qrt (diaR y i) i (4 + (i + 1) % 4) (8 + (i + 2) % 4) (12 + (i + 3) % 4))]))] _ _ (quarter_fn (diaR y i) i (4 + (i + 1) % 4) (8 + (i + 2) % 4) (12 + (i + 3) % 4) hcl (by omega) (by omega) (by omega) (by omega)) call28 (by simp only [AV.nmIn, bnd, req, ret, onQ, AV.isTup, isTupL, and_true, true_and, and_self, Bool.false_eq_true, List.append_nil, vw.vwL, vw, AV.free, AV.freeL, Bool.or_self]; all_goals (and_intros <;> first | exact AV.subL_refl _ | omega | rfl | (simp []; done) | (simp [AV.subL, AV.sub, entsFree]; done))) (by simp [leL, lk]) (by intro n hn; first | (left; revert hn; simp [Nm, lk]; done) | (right; revert hn; simp only [Nm, lk]; split <;> simp <;> omega)) (by simp [entsIn, Ent.nmIn, AV.nmIn, AV.nmInL]) ?_
      simp only [callDel, exOps_nil, nx_eq, putT, erA, ap, up, er, thn_normal, inb_normal, Nat.reduceEqDiff, Nat.reduceAdd, if_true, if_false, reduceCtorEq, List.nil_append, List.cons_append, List.map_cons, List.map_nil, List.reverse_cons, List.reverse_nil]
      refine hK _ ?_
      clear hK K
      refine W.region tt_ok ?_
      simp only [exOps_nil, exOps_cons, exOp_eq, nx_eq, cur_eq, stepQ, ev, ofV, lk, putT, erA, inB, opt, bnd, req, ret, onQ, ap, binG, binF, intF, thn_normal, true_and, and_self, Nat.reduceEqDiff, Nat.reduceLT, Nat.reduceAdd, if_true, if_false, wrap_up i (by omega)]
      refine hK4 _ (i + 1) (by omega) (by omega) ?_
      simp [wk, leL, lk, nmT, nmE, nmH, AV.nmIn, AV.nmInL, Ent.nmIn, diaR]
    simp only [thn_normal, thn_exit, inb_normal, inb_exit, Nat.reduceEqDiff, if_true, if_false]
    clear hK K
    have hk4 : i = 4 := by have := of_decide_eq_false hb'; omega
    subst hk4
    refine hK _ ?_
    clear hK K
    refine W.region tt_ok ?_
    simp only [exOps_nil, exOps_cons, exOp_eq, nx_eq, cur_eq, stepQ, ev, ofV, lk, putT, erA, inB, opt, bnd, req, ret, onQ, ap, binG, binF, intF, thn_normal, true_and, and_self, Nat.reduceEqDiff, Nat.reduceLT, Nat.reduceAdd, if_true, if_false, wrap_up r (by omega)]
    refine hK3 _ (r + 1) (by omega) (by omega) ?_
    have hz : rndS w (r + 1) = diaR y 4 := by rw [rndS, hx, hy]
    rw [hz]
    simp [wk, leL, lk, nmT, nmE, nmH, AV.nmIn, AV.nmInL, Ent.nmIn]
  simp only [thn_normal, thn_exit, inb_exit, if_true]
  clear hK K
  have hk10 : r = 10 := by have := of_decide_eq_false hb; omega
  subst hk10
  obtain ⟨x, hx⟩ : ∃ x, rndS w 10 = x := ⟨_, rfl⟩
  have hxl : x.length = 16 := by rw [← hx, rndS_len, hwl3]
  rw [hx]
  refine hK _ ?_
  clear hK K
  refine W.seqK fun K hK => W.regionK tt_ok ?_
  simp only [exOps_nil, exOps_cons, exOp_eq, nx_eq, cur_eq, stepQ, putT, erA, inB, opt, ret, onQ, ap, up, er, true_and, Nat.reduceEqDiff, Nat.reduceLT, Nat.reduceAdd, if_false, reduceCtorEq, tt_51]
  refine hK _ ?_
  clear hK K
  refine W.seqK fun K hK => ?_
  refine W.seqK fun K hK => W.regionK tt_ok ?_
  simp only [exOps_nil, exOps_cons, exOp_eq, nx_eq, cur_eq, stepQ, ev, ofV, putT, erA, inB, opt, ret, onQ, ap, true_and, Nat.reduceEqDiff, Nat.reduceLT, Nat.reduceAdd, if_false]
  refine hK _ ?_
  clear hK K
  refine W.weak ⟨[(2, .int .u32 count), (3, .ptr 0 0 0 1), (4, .ptr 16 0 0 1), (6, .ptr 32 0 0 1), (7, .ptr 48 0 0 1), (10, .ptr 1000 0 0 1), (13, .ptr 1064 0 0 1), (76, .int .i64 0)], (1064, .obj 51 (.agg [.ints .u8 64 (List.replicate 64 0)])) :: (1000, .obj 59 (.agg [.ints .u32 16 x])) :: [(0, .obj 22 (.agg [.ints .u8 32 key])), (16, .obj 36 (.agg [.ints .u8 12 nonce])), (32, .obj 51 (.agg [.ints .u8 64 (List.replicate 64 0)])), (48, .obj 59 (.agg [.ints .u32 16 (w)]))], 3000, 97⟩ (by simp [wk, leL, lk, nmT, nmE, nmH, AV.nmIn, AV.nmInL, Ent.nmIn]) ?_
  refine W.blockK ?_
  refine W.loopK (fun i : Nat => i ≤ 64) (fun i => ⟨[(2, .int .u32 count), (3, .ptr 0 0 0 1), (4, .ptr 16 0 0 1), (6, .ptr 32 0 0 1), (7, .ptr 48 0 0 1), (10, .ptr 1000 0 0 1), (13, .ptr 1064 0 0 1), (76, .int .i64 i)], (1064, .obj 51 (.agg [.ints .u8 64 (outB x w i)])) :: (1000, .obj 59 (.agg [.ints .u32 16 x])) :: [(0, .obj 22 (.agg [.ints .u8 32 key])), (16, .obj 36 (.agg [.ints .u8 12 nonce])), (32, .obj 51 (.agg [.ints .u8 64 (List.replicate 64 0)])), (48, .obj 59 (.agg [.ints .u32 16 (w)]))], 3000, 97⟩) (fun i => 64 - i) 0 (by simp) (by simp [wk, leL, lk, nmT, nmE, nmH, AV.nmIn, AV.nmInL, Ent.nmIn, outB]) ?_
  intro i hi K4 hK4
  refine W.seqK fun K hK => W.regionK tt_ok ?_
  simp only [exOps_nil, exOps_cons, exOp_eq, nx_eq, cur_eq, stepQ, ev, ofV, lk, putT, erA, inB, opt, bnd, req, ret, onQ, ap, binG, binF, intF, true_and, and_self, Nat.reduceEqDiff, Nat.reduceLT, Nat.reduceAdd, if_true, if_false]
  refine hK _ ?_
  clear hK K
  refine W.seqK fun K hK => W.cond (b := decide ((i : Int) < 64)) (by simp only [ev, lk, Nat.reduceEqDiff, if_true, if_false]) (fun hb' => W.skip ?_) (fun hb' => W.exit ?_)
  · rw [thn_normal]
    have hlt' : i < 64 := by have := of_decide_eq_true hb'; omega
    have hol := outB_len x w i
    have q1 : Int.tdiv (i : Int) 4 = ((i / 4 : Nat) : Int) := by rw [Int.tdiv_eq_ediv_of_nonneg (by omega)]; omega
    have q2 : Int.tmod (i : Int) 4 = ((i % 4 : Nat) : Int) := by rw [Int.tmod_eq_emod_of_nonneg (by omega)]; omega
    have q3 : IntKind.i64.wrap (8 * ((i % 4 : Nat) : Int)) = ((8 * (i % 4) : Nat) : Int) := by rw [IntKind.wrap_i64]; omega
    have q4 : IntKind.i64.wrap ((i / 4 : Nat) : Int) = ((i / 4 : Nat) : Int) := by rw [IntKind.wrap_i64]; omega
    have q5 : IntKind.u32.bits = 32 := rfl
    refine hK _ ?_
    clear hK K
    refine W.seqK fun K hK => W.blockK ?_
    refine W.seqK fun K hK => W.regionK tt_ok ?_
    simp only [exOps_nil, exOps_cons, exOp_eq, nx_eq, cur_eq, stepQ, ev, lk, putT, erA, inB, opt, ret, onQ, ap, true_and, Nat.reduceEqDiff, Nat.reduceLT, Nat.reduceAdd, if_true, if_false]
    refine hK _ ?_
    clear hK K
    refine exD_sound (A := [⟨0, false, []⟩, ⟨0, false, []⟩, ⟨0, false, [1]⟩, ⟨0, false, [1, 2]⟩, ⟨0, false, [1, 2, 3]⟩, ⟨0, false, []⟩, ⟨0, false, [5]⟩, ⟨0, false, [5, 6]⟩, ⟨0, false, [5, 6, 7]⟩, ⟨0, false, [1, 2, 3, 4, 5, 6, 7, 8]⟩, ⟨0, false, []⟩, ⟨0, false, [10]⟩, ⟨0, false, [10, 11]⟩, ⟨0, false, [1, 2, 3, 4, 5, 6, 7, 8, 9, 10, 11, 12]⟩, ⟨0, false, [1, 2, 3, 4, 5, 6, 7, 8, 9, 10, 11, 12, 13]⟩, ⟨0, false, [0, 1, 2, 3, 4, 5, 6, 7, 8, 9, 10, 11, 12, 13, 14]⟩, ⟨2, false, [0, 1, 2, 3, 4, 5, 6, 7, 8, 9, 10, 11, 12, 13, 14, 15]⟩]) mix tt_ok (by kernel_rfl) ?_
    simp only [exOp_eq, exD_nil, exD_cons, nxD_eq, cur_eq, flI, ownB, stepQ, ev, ofV, lk, putT, erA, inB, opt, bnd, req, ret, onQ, ap, up, er, AV.isTup, AV.isAgg, binG, binF, intF, shiftF, Kd.elem, Kd.isInt, ixA, asI, ldP, ldE, ldC, ldS, Kd.agg, comps, csize, takeI, takeC, dropC, stP, stE, stC, stS, cvQ, thn_normal, inb_normal, and_true, true_and, and_self, Nat.reduceEqDiff, Nat.reduceLT, Nat.reduceLeDiff, Nat.reduceAdd, Nat.reduceSub, Int.toNat_natCast, Nat.zero_add, if_true, if_false, Bool.false_eq_true, reduceCtorEq, ne_eq, Option.bind_some, Option.map_some, tt_5, tt_38, tt_51, tt_59, q1, q2, q3, q4, q5]
    repeat (refine ⟨by omega, ?_⟩)
    refine hK _ ?_
    clear hK K
    refine W.region tt_ok ?_
    simp only [exOps_nil, exOps_cons, exOp_eq, nx_eq, cur_eq, stepQ, ev, ofV, lk, putT, erA, inB, opt, bnd, req, ret, onQ, ap, binG, binF, intF, thn_normal, true_and, and_self, Nat.reduceEqDiff, Nat.reduceLT, Nat.reduceAdd, if_true, if_false, wrap_up i (by omega)]
    refine hK4 _ (i + 1) (by omega) (by omega) ?_
    simp [wk, leL, lk, nmT, nmE, nmH, AV.nmIn, AV.nmInL, Ent.nmIn, outB]
  simp only [thn_normal, thn_exit, inb_exit, if_true]
  clear hK K
  have hk64 : i = 64 := by have := of_decide_eq_false hb'; omega
  subst hk64
  have hol := outB_len x w 64
  have hfin : blockS key nonce count = outB x w 64 := by rw [blockS, hww, hx]
  refine hK _ ?_
  clear hK K
  rw [hfin]
  refine W.seqK fun K hK => W.regionK tt_ok ?_
  simp only [exOps_nil, exOps_cons, exOp_eq, nx_eq, cur_eq, stepQ, ev, lk, putT, erA, inB, opt, bnd, req, ret, onQ, ap, up, er, AV.isAgg, ldP, ldE, ldC, ldS, Kd.agg, comps, szL, csize, takeI, takeC, dropC, stP, stE, stC, stS, true_and, and_self, Nat.reduceEqDiff, Nat.reduceLT, Nat.reduceLeDiff, Nat.reduceAdd, Nat.reduceSub, Nat.sub_self, Nat.le_refl, Nat.add_zero, Nat.zero_add, if_true, if_false, reduceCtorEq, Option.bind_some, Option.map_some, List.append_nil, List.nil_append, tt_51]
  repeat (refine ⟨by omega, ?_⟩)
  refine hK _ ?_
  clear hK K
  refine W.ret ?_
  simp only [fin_ret, finB, resQ, resV, leL, AV.nmIn, AV.nmInL, entsIn, lk, opt, bnd, req, ret, onQ, AV.isTup, ldP, ldE, ldC, ldS, Kd.agg, comps, csize, takeI, takeC, dropC, and_self, Nat.reduceEqDiff, Nat.reduceLT, Nat.reduceLeDiff, Nat.reduceSub, Nat.sub_self, Nat.le_refl, Nat.add_zero, if_true, if_false, reduceCtorEq, Option.bind_some, Option.map_some, tt_51]
end Go.Proofs.YtakgcmponelbeaaDoor.Sm
