/- The stream's Xor. -/
import Derived.Test.YtakgcmponelbeaaDoorAmB
import Derived.Test.YtakgcmponelbeaaDoorSxW
-- TT 3 5 22 36 38 24 51 23
set_option linter.unusedVariables false
set_option linter.unusedSimpArgs false
namespace Go.Proofs.YtakgcmponelbeaaDoor.Sm
open Sx
set_option maxRecDepth 100000
set_option maxHeartbeats 4000000
theorem call20 : Callable Tryd.prog 20 := ⟨_, Tryd.func20, by kernel_rfl, by kernel_rfl⟩
def kS (key nonce : List Int) (count : Int) (j : Nat) : List Int := blockS key nonce (IntKind.u32.wrap (count + IntKind.u32.wrap (j : Int)))
def xorO (key nonce : List Int) (count : Int) (b : List Int) : Nat → List Int
  | 0 => List.replicate b.length 0
  | i + 1 => (xorO key nonce count b i).set i (bits .xor .u8 (b.getD i 0) ((kS key nonce count (i / 64)).getD (i % 64) 0))
theorem xorO_len (key nonce : List Int) (count : Int) (b : List Int) : ∀ i, (xorO key nonce count b i).length = b.length
  | 0 => by simp [xorO]
  | i + 1 => by simp [xorO, xorO_len key nonce count b i]
theorem blockS_len (key nonce : List Int) (count : Int) : (blockS key nonce count).length = 64 := outB_len _ _ _
theorem xor_big (key nonce : List Int) (count : Int) (b : List Int) (hb : 65536 < b.length) :
    FnR Tryd.prog G 13 [.agg [.ints .u8 32 key], .agg [.ints .u8 12 nonce], .int .u32 count, .lstI .u8 b] [] (.tup [.nils, .int .i64 3]) [] := by
  refine FnR.of_walkT (m := 70) tt_ok Tryd.func13 rfl rfl (by simp) ?_
  rw [show Tryd.f13.results.toList = [.tmp 8, .tmp 9] from rfl]
  refine W.seqK fun K hK => W.regionK tt_ok ?_
  simp only [exOps_nil, exOps_cons, exOp_eq, nx_eq, cur_eq, stepQ, ev, ofV, lk, parT, putT, erA, inB, opt, req, ret, onQ, ap, up, er, AV.isTup, true_and, and_self, Nat.reduceEqDiff, Nat.reduceLT, Nat.reduceAdd, Nat.zero_add, if_true, if_false, reduceCtorEq]
  refine hK _ ?_
  clear hK K
  refine W.seqK fun Kz hKz => W.blockK ?_
  refine W.seqK fun K hK => W.regionK tt_ok ?_
  simp only [exOps_nil, exOps_cons, exOp_eq, exCall_eq, nx_eq, cur_eq, evL, stepQ, ev, ofV, lk, putT, erA, inB, opt, bnd, req, ret, onQ, ap, binG, binF, intF, bltQ, bltV, lenF, true_and, and_self, or_false, Nat.reduceEqDiff, Nat.reduceLT, Nat.reduceAdd, if_true, if_false, reduceCtorEq, List.getElem?_cons_zero, Option.bind_some, Option.map_some, tt_24]
  refine hK _ ?_
  clear hK K
  refine W.cond (b := decide ((65536 : Int) < b.length)) (by simp only [ev, lk, Nat.reduceEqDiff, if_true, if_false, reduceCtorEq]) (fun h => ?_) (fun h => by have := of_decide_eq_false h; omega)
  refine W.seqK fun K hK => W.regionK tt_ok ?_
  simp only [exOps_nil, exOps_cons, exOp_eq, nx_eq, cur_eq, stepQ, ev, ofV, putT, erA, inB, opt, ret, onQ, ap, true_and, Nat.reduceEqDiff, Nat.reduceLT, Nat.reduceAdd, if_true, if_false, reduceCtorEq]
  refine hK _ ?_
  clear hK K
  refine W.ret ?_
  simp only [finT_ret, finTB, resQ, lk, opt, bnd, req, ret, onQ, AV.isTup, thn_ret, inb_ret, true_and, and_self, Nat.reduceEqDiff, if_true, if_false, reduceCtorEq, ne_eq]
  simp [vw.vwL, vw, AV.nmIn, AV.nmIn, bnd, req, ret, and_self, Nat.reduceAdd, Nat.zero_add, not_false_eq_true]
theorem xor_end (key nonce : List Int) (count : Int) (b : List Int) (hb : b.length ≤ 65536) (hc : 0 ≤ count ∧ count < 4294967296) (he : 4294967296 < count + ((b.length + 63) / 64 : Nat)) :
    FnR Tryd.prog G 13 [.agg [.ints .u8 32 key], .agg [.ints .u8 12 nonce], .int .u32 count, .lstI .u8 b] [] (.tup [.nils, .int .i64 12]) [] := by
  have a1 : IntKind.i64.wrap ((b.length : Int) + 64) = ((b.length + 64 : Nat) : Int) := by rw [IntKind.wrap_i64]; omega
  have a2 : IntKind.i64.wrap (((b.length + 64 : Nat) : Int) - 1) = ((b.length + 63 : Nat) : Int) := by rw [IntKind.wrap_i64]; omega
  have a3 : Int.tdiv ((b.length + 63 : Nat) : Int) 64 = (((b.length + 63) / 64 : Nat) : Int) := by rw [Int.tdiv_eq_ediv_of_nonneg (by omega)]; omega
  have a4 : IntKind.i64.wrap (((b.length + 63) / 64 : Nat) : Int) = (((b.length + 63) / 64 : Nat) : Int) := by rw [IntKind.wrap_i64]; omega
  have a5 : IntKind.u64.wrap (((b.length + 63) / 64 : Nat) : Int) = (((b.length + 63) / 64 : Nat) : Int) := by rw [IntKind.wrap_u64]; omega
  have a6 : IntKind.u64.wrap count = count := by rw [IntKind.wrap_u64]; omega
  have a7 : IntKind.u64.wrap (count + (((b.length + 63) / 64 : Nat) : Int)) = count + (((b.length + 63) / 64 : Nat) : Int) := by rw [IntKind.wrap_u64]; omega
  refine FnR.of_walkT (m := 70) tt_ok Tryd.func13 rfl rfl (by simp) ?_
  rw [show Tryd.f13.results.toList = [.tmp 8, .tmp 9] from rfl]
  refine W.seqK fun K hK => W.regionK tt_ok ?_
  simp only [exOps_nil, exOps_cons, exOp_eq, nx_eq, cur_eq, stepQ, ev, ofV, lk, parT, putT, erA, inB, opt, req, ret, onQ, ap, up, er, AV.isTup, true_and, and_self, Nat.reduceEqDiff, Nat.reduceLT, Nat.reduceAdd, Nat.zero_add, if_true, if_false, reduceCtorEq]
  refine hK _ ?_
  clear hK K
  refine W.seqK fun Kz hKz => W.blockK ?_
  refine W.seqK fun K hK => W.regionK tt_ok ?_
  simp only [exOps_nil, exOps_cons, exOp_eq, exCall_eq, nx_eq, cur_eq, evL, stepQ, ev, ofV, lk, putT, erA, inB, opt, bnd, req, ret, onQ, ap, binG, binF, intF, bltQ, bltV, lenF, true_and, and_self, or_false, Nat.reduceEqDiff, Nat.reduceLT, Nat.reduceAdd, if_true, if_false, reduceCtorEq, List.getElem?_cons_zero, Option.bind_some, Option.map_some, tt_24]
  refine hK _ ?_
  clear hK K
  refine W.cond (b := decide ((65536 : Int) < b.length)) (by simp only [ev, lk, Nat.reduceEqDiff, if_true, if_false, reduceCtorEq]) (fun h => by have := of_decide_eq_true h; omega) (fun h => ?_)
  have he' : decide ((4294967296 : Int) < count + (((b.length + 63) / 64 : Nat) : Int)) = true := decide_eq_true he
  refine W.seqK fun K hK => W.regionK tt_ok ?_
  simp only [exOps_nil, exOps_cons, exOp_eq, exCall_eq, nx_eq, cur_eq, evL, stepQ, ev, ofV, lk, putT, erA, inB, opt, bnd, req, ret, onQ, ap, binG, binF, intF, bltQ, bltV, lenF, cvQ, and_true, true_and, and_self, or_false, Nat.reduceEqDiff, Nat.reduceLT, Nat.reduceAdd, if_true, if_false, reduceCtorEq, ne_eq, List.getElem?_cons_zero, Option.bind_some, Option.map_some, tt_3, tt_38, tt_24, tt_23, a1, a2, a3, a4, a5, a6, a7, he']
  repeat (refine ⟨by omega, ?_⟩)
  refine hK _ ?_
  clear hK K
  refine W.cond (b := true) (by simp only [ev, lk, Nat.reduceEqDiff, if_true, if_false, reduceCtorEq]) (fun _ => ?_) (fun h => absurd h (by simp))
  refine W.seqK fun K hK => W.regionK tt_ok ?_
  simp only [exOps_nil, exOps_cons, exOp_eq, nx_eq, cur_eq, stepQ, ev, ofV, putT, erA, inB, opt, ret, onQ, ap, true_and, Nat.reduceEqDiff, Nat.reduceLT, Nat.reduceAdd, if_true, if_false, reduceCtorEq]
  refine hK _ ?_
  clear hK K
  refine W.ret ?_
  simp only [finT_ret, finTB, resQ, lk, opt, bnd, req, ret, onQ, AV.isTup, thn_ret, inb_ret, true_and, and_self, Nat.reduceEqDiff, if_true, if_false, reduceCtorEq, ne_eq]
  simp [vw.vwL, vw, AV.nmIn, AV.nmIn, bnd, req, ret, and_self, Nat.reduceAdd, Nat.zero_add, not_false_eq_true]
theorem xor_own (key nonce : List Int) (count : Int) (b : List Int) (hk : key.length = 32) (hn : nonce.length = 12) (hb : b.length ≤ 65536) (hc : 0 ≤ count ∧ count < 4294967296) (he : count + ((b.length + 63) / 64 : Nat) ≤ 4294967296) :
    FnR Tryd.prog G 13 [.agg [.ints .u8 32 key], .agg [.ints .u8 12 nonce], .int .u32 count, .lstI .u8 b] [] (.tup [.sl 336 1 0 b.length, .int .i64 0]) [(336, .vec 5 (.ints .u8 (xorO key nonce count b b.length)))] := by
  have a1 : IntKind.i64.wrap ((b.length : Int) + 64) = ((b.length + 64 : Nat) : Int) := by rw [IntKind.wrap_i64]; omega
  have a2 : IntKind.i64.wrap (((b.length + 64 : Nat) : Int) - 1) = ((b.length + 63 : Nat) : Int) := by rw [IntKind.wrap_i64]; omega
  have a3 : Int.tdiv ((b.length + 63 : Nat) : Int) 64 = (((b.length + 63) / 64 : Nat) : Int) := by rw [Int.tdiv_eq_ediv_of_nonneg (by omega)]; omega
  have a4 : IntKind.i64.wrap (((b.length + 63) / 64 : Nat) : Int) = (((b.length + 63) / 64 : Nat) : Int) := by rw [IntKind.wrap_i64]; omega
  have a5 : IntKind.u64.wrap (((b.length + 63) / 64 : Nat) : Int) = (((b.length + 63) / 64 : Nat) : Int) := by rw [IntKind.wrap_u64]; omega
  have a6 : IntKind.u64.wrap count = count := by rw [IntKind.wrap_u64]; omega
  have a7 : IntKind.u64.wrap (count + (((b.length + 63) / 64 : Nat) : Int)) = count + (((b.length + 63) / 64 : Nat) : Int) := by rw [IntKind.wrap_u64]; omega
  refine FnR.of_walk (m := 70) (n0 := 0) tt_ok Tryd.func13 rfl rfl (by simp) (by simp [nmH]) ?_
  rw [show Tryd.f13.results.toList = [.tmp 8, .tmp 9] from rfl]
  refine W.seqK fun K hK => W.regionK tt_ok ?_
  simp only [exOps_nil, exOps_cons, exOp_eq, nx_eq, cur_eq, stepQ, ev, ofV, lk, parT, putT, erA, inB, opt, req, ret, onQ, ap, up, er, AV.isTup, true_and, and_self, Nat.reduceEqDiff, Nat.reduceLT, Nat.reduceAdd, Nat.zero_add, if_true, if_false, reduceCtorEq]
  refine hK _ ?_
  clear hK K
  refine W.seqK fun Kz hKz => W.blockK ?_
  refine W.seqK fun K hK => W.regionK tt_ok ?_
  simp only [exOps_nil, exOps_cons, exOp_eq, exCall_eq, nx_eq, cur_eq, evL, stepQ, ev, ofV, lk, putT, erA, inB, opt, bnd, req, ret, onQ, ap, binG, binF, intF, bltQ, bltV, lenF, true_and, and_self, or_false, Nat.reduceEqDiff, Nat.reduceLT, Nat.reduceAdd, if_true, if_false, reduceCtorEq, List.getElem?_cons_zero, Option.bind_some, Option.map_some, tt_24]
  refine hK _ ?_
  clear hK K
  refine W.cond (b := decide ((65536 : Int) < b.length)) (by simp only [ev, lk, Nat.reduceEqDiff, if_true, if_false, reduceCtorEq]) (fun h => by have := of_decide_eq_true h; omega) (fun h => ?_)
  have he' : decide ((4294967296 : Int) < count + (((b.length + 63) / 64 : Nat) : Int)) = false := by rw [decide_eq_false_iff_not]; omega
  refine W.seqK fun K hK => W.regionK tt_ok ?_
  simp only [exOps_nil, exOps_cons, exOp_eq, exCall_eq, nx_eq, cur_eq, evL, stepQ, ev, ofV, lk, putT, erA, inB, opt, bnd, req, ret, onQ, ap, binG, binF, intF, bltQ, bltV, lenF, cvQ, and_true, true_and, and_self, or_false, Nat.reduceEqDiff, Nat.reduceLT, Nat.reduceAdd, if_true, if_false, reduceCtorEq, ne_eq, List.getElem?_cons_zero, Option.bind_some, Option.map_some, tt_3, tt_38, tt_24, tt_23, a1, a2, a3, a4, a5, a6, a7, he']
  repeat (refine ⟨by omega, ?_⟩)
  refine hK _ ?_
  clear hK K
  refine W.cond (b := false) (by simp only [ev, lk, Nat.reduceEqDiff, if_true, if_false, reduceCtorEq]) (fun h => absurd h (by simp)) (fun _ => W.skip ?_)
  simp only [thn_normal, inb_normal]
  refine hKz _ ?_
  clear hKz Kz
  refine W.seqK fun K hK => W.regionK tt_ok ?_
  simp only [exOps_nil, exOps_cons, exOp_eq, exCall_eq, nx_eq, cur_eq, evL, stepQ, ev, lk, putT, erA, inB, opt, bnd, req, ret, onQ, ap, up, er, intsOf, bltQ, bltV, lenF, Row.len, Row.sz, Row.take, mkQ, zeroCs, cellsRow, and_true, true_and, and_self, or_false, Nat.reduceEqDiff, Nat.reduceLT, Nat.reduceAdd, Int.toNat_natCast, if_true, if_false, reduceCtorEq, List.getElem?_cons_zero, Option.bind_some, Option.map_some, List.append_nil, tt_5, tt_24]
  refine ⟨⟨by omega, by omega, by omega, by omega, by simp⟩, ?_⟩
  rw [List.take_of_length_le (by simp)]
  refine hK _ ?_
  clear hK K
  refine W.seqK fun K hK => ?_
  refine W.seqK fun K hK => W.regionK tt_ok ?_
  simp only [exOps_nil, exOps_cons, exOp_eq, nx_eq, cur_eq, stepQ, ev, ofV, putT, erA, inB, opt, ret, onQ, ap, true_and, Nat.reduceEqDiff, Nat.reduceLT, Nat.reduceAdd, if_false, reduceCtorEq]
  refine hK _ ?_
  clear hK K
  refine W.blockK ?_
  refine W.loopK (fun j : Nat => j ≤ (b.length + 63) / 64) (fun j => ⟨[(2, .int .u32 count), (3, .lstI .u8 b), (4, .ptr 0 0 0 1), (5, .ptr 16 0 0 1), (10, .sl 336 1 0 b.length), (11, .int .i64 ((64 * j : Nat) : Int))], [(0, .obj 22 (.agg [.ints .u8 32 key])), (16, .obj 36 (.agg [.ints .u8 12 nonce])), (336, .vec 5 (.ints .u8 (xorO key nonce count b (min (64 * j) b.length))))], 872, 70⟩) (fun j => (b.length + 63) / 64 - j) 0 (by simp) (by simp [wk, leL, lk, nmT, nmE, nmH, AV.nmIn, AV.nmInL, Ent.nmIn, Row.nmIn, xorO]) ?_
  intro j hj K3 hK3
  refine W.seqK fun K hK => ?_
  refine W.seqK fun K hK => W.regionK tt_ok ?_
  simp only [exOps_nil, exOps_cons, exOp_eq, exCall_eq, nx_eq, cur_eq, evL, stepQ, ev, lk, putT, erA, inB, opt, bnd, req, ret, onQ, ap, binG, binF, intF, bltQ, bltV, lenF, true_and, and_self, or_false, Nat.reduceEqDiff, Nat.reduceLT, Nat.reduceAdd, if_true, if_false, List.getElem?_cons_zero, Option.bind_some, Option.map_some, tt_24]
  refine hK _ ?_
  clear hK K
  refine W.cond (b := decide (((64 * j : Nat) : Int) < b.length)) (by simp only [ev, lk, Nat.reduceEqDiff, if_true, if_false]) (fun hb' => W.skip ?_) (fun hb' => W.exit ?_)
  · rw [thn_normal]
    have hlt : 64 * j < b.length := by have := of_decide_eq_true hb'; omega
    have q1 : Int.tdiv ((64 * j : Nat) : Int) 64 = (j : Int) := by rw [Int.tdiv_eq_ediv_of_nonneg (by omega)]; omega
    have q2 : IntKind.i64.wrap (j : Int) = (j : Int) := by rw [IntKind.wrap_i64]; omega
    have q3 : IntKind.i64.wrap (((64 * j : Nat) : Int) + 64) = ((64 * (j + 1) : Nat) : Int) := by rw [IntKind.wrap_i64]; omega
    refine hK _ ?_
    clear hK K
    refine W.seqK fun K hK => W.blockK ?_
    refine W.seqK fun K hK => W.regionK tt_ok ?_
    simp only [exOps_cons, exOp_eq, exCall_eq, nx_eq, cur_eq, evL, stepQ, ev, ofV, lk, putT, erA, inB, opt, bnd, req, ret, onQ, ap, binG, binF, intF, ldP, ldE, ldC, ldS, Kd.agg, comps, csize, takeI, takeC, dropC, cvQ, and_true, true_and, and_self, Nat.reduceEqDiff, Nat.reduceLT, Nat.reduceLeDiff, Nat.reduceAdd, Nat.reduceSub, Nat.sub_self, Nat.le_refl, Nat.add_zero, if_true, if_false, reduceCtorEq, ne_eq, Option.bind_some, Option.map_some, tt_3, tt_22, tt_36, tt_38, q1, q2]
    repeat (refine ⟨by omega, ?_⟩)
    refine CallK.pure _ _ (block_fn key nonce (IntKind.u32.wrap (count + IntKind.u32.wrap (j : Int))) hk hn) call20 (by simp only [AV.nmIn, bnd, req, ret, onQ, AV.isTup, isTupL, true_and, and_self, Bool.false_eq_true, List.append_nil, vw.vwL, vw, AV.free, AV.freeL, Bool.or_self]; all_goals (and_intros <;> first | exact AV.subL_refl _ | omega | rfl | (simp []; done) | (simp; exact AV.subL_refl _) | (simp [AV.subL, AV.sub]; done))) ?_
    simp only [exOps_nil, exOps_cons, exOp_eq, nx_eq, cur_eq, stepQ, ev, lk, putT, erA, inB, opt, bnd, req, ret, onQ, ap, up, er, AV.isAgg, Kd.agg, comps, szL, csize, takeI, takeC, dropC, stP, stE, stC, stS, true_and, and_self, Nat.reduceEqDiff, Nat.reduceLT, Nat.reduceLeDiff, Nat.reduceAdd, Nat.reduceSub, Nat.sub_self, Nat.le_refl, Nat.add_zero, Nat.zero_add, if_true, if_false, reduceCtorEq, Option.bind_some, Option.map_some, List.append_nil, List.nil_append, tt_51]
    repeat (refine ⟨by omega, ?_⟩)
    refine hK _ ?_
    clear hK K
    refine W.seqK fun K hK => W.regionK tt_ok ?_
    simp only [exOps_nil, exOps_cons, exOp_eq, nx_eq, cur_eq, stepQ, ev, lk, putT, erA, inB, opt, ret, onQ, ap, true_and, Nat.reduceEqDiff, Nat.reduceLT, Nat.reduceAdd, if_true, if_false]
    refine hK _ ?_
    clear hK K
    refine W.blockK ?_
    refine W.loopK (fun i : Nat => 64 * j ≤ i ∧ i ≤ min (64 * (j + 1)) b.length) (fun i => ⟨[(2, .int .u32 count), (3, .lstI .u8 b), (4, .ptr 0 0 0 1), (5, .ptr 16 0 0 1), (10, .sl 336 1 0 b.length), (11, .int .i64 ((64 * j : Nat) : Int)), (12, .ptr 1064 0 0 1), (13, .int .i64 i)], (1064, .obj 51 (.agg [.ints .u8 64 (kS key nonce count j)])) :: [(0, .obj 22 (.agg [.ints .u8 32 key])), (16, .obj 36 (.agg [.ints .u8 12 nonce])), (336, .vec 5 (.ints .u8 (xorO key nonce count b i)))], 1200, 70⟩) (fun i => b.length - i) (64 * j) (by omega) (by rw [Nat.min_eq_left (by omega)]; simp [wk, leL, lk, nmT, nmE, nmH, AV.nmIn, AV.nmInL, Ent.nmIn, Row.nmIn, kS]) ?_
    intro i hi K4 hK4
    refine W.seqK fun K hK => ?_
    have hmin : (if (b.length : Int) < ((64 * (j + 1) : Nat) : Int) then (b.length : Int) else ((64 * (j + 1) : Nat) : Int)) = ((min (64 * (j + 1)) b.length : Nat) : Int) := by
      split <;> omega
    refine W.seqK fun K hK => W.regionK tt_ok ?_
    simp only [exOps_nil, exOps_cons, exOp_eq, exCall_eq, nx_eq, cur_eq, evL, stepQ, ev, ofV, lk, putT, erA, inB, opt, bnd, req, ret, onQ, ap, binG, binF, intF, bltQ, bltV, lenF, true_and, and_self, or_false, Nat.reduceEqDiff, Nat.reduceLT, Nat.reduceAdd, if_true, if_false, List.getElem?_cons_zero, Option.bind_some, Option.map_some, tt_24, q3, hmin]
    refine hK _ ?_
    clear hK K
    refine W.cond (b := decide ((i : Int) < ((min (64 * (j + 1)) b.length : Nat) : Int))) (by simp only [ev, lk, Nat.reduceEqDiff, if_true, if_false]) (fun hc' => W.skip ?_) (fun hc' => W.exit ?_)
    · rw [thn_normal]
      have hil : i < min (64 * (j + 1)) b.length := by have := of_decide_eq_true hc'; omega
      have hxl := xorO_len key nonce count b i
      have hkl : (kS key nonce count j).length = 64 := blockS_len _ _ _
      have r1 : IntKind.i64.wrap ((i : Int) - ((64 * j : Nat) : Int)) = ((i % 64 : Nat) : Int) := by rw [IntKind.wrap_i64]; omega
      have hj' : i / 64 = j := by omega
      refine hK _ ?_
      clear hK K
      refine W.seqK fun K hK => W.blockK ?_
      refine exD_sound (A := [⟨0, false, []⟩, ⟨0, false, []⟩, ⟨0, false, []⟩, ⟨0, false, []⟩, ⟨0, false, [2, 3]⟩, ⟨0, false, [2, 3, 4]⟩, ⟨0, false, []⟩, ⟨0, false, []⟩, ⟨0, false, [6, 7]⟩, ⟨0, false, [6, 7, 8]⟩, ⟨0, false, [6, 7, 8, 9]⟩, ⟨0, false, [2, 3, 4, 5, 6, 7, 8, 9, 10]⟩, ⟨0, false, [0, 1, 2, 3, 4, 5, 6, 7, 8, 9, 10, 11]⟩, ⟨2, false, [0, 1, 2, 3, 4, 5, 6, 7, 8, 9, 10, 11, 12]⟩]) mix tt_ok (by kernel_rfl) ?_
      simp only [exOp_eq, exD_nil, exD_cons, nxD_eq, cur_eq, flI, ownB, stepQ, ev, lk, putT, erA, inB, opt, bnd, req, ret, onQ, ap, up, er, binG, binF, intF, Kd.elem, Kd.isInt, ixA, asI, ldP, ldE, ldC, ldS, Kd.agg, comps, csize, takeI, takeC, dropC, stP, stE, thn_normal, inb_normal, and_true, true_and, and_self, Nat.reduceEqDiff, Nat.reduceLT, Nat.reduceLeDiff, Nat.reduceAdd, Nat.reduceSub, Nat.sub_self, Int.toNat_natCast, Nat.le_refl, Nat.zero_add, if_true, if_false, Bool.false_eq_true, reduceCtorEq, Option.bind_some, Option.map_some, tt_5, tt_24, tt_51, r1, hxl]
      repeat (refine ⟨by omega, ?_⟩)
      refine hK _ ?_
      clear hK K
      refine W.region tt_ok ?_
      simp only [exOps_nil, exOps_cons, exOp_eq, nx_eq, cur_eq, stepQ, ev, ofV, lk, putT, erA, inB, opt, bnd, req, ret, onQ, ap, binG, binF, intF, thn_normal, true_and, and_self, Nat.reduceEqDiff, Nat.reduceLT, Nat.reduceAdd, if_true, if_false, wrap_up i (by omega)]
      refine hK4 _ (i + 1) (by omega) (by omega) ?_
      simp [wk, leL, lk, nmT, nmE, nmH, AV.nmIn, AV.nmInL, Ent.nmIn, Row.nmIn, xorO, hj']
    · simp only [thn_normal, thn_exit, inb_normal, inb_exit, Nat.reduceEqDiff, if_true, if_false]
      clear hK K
      have hie : i = min (64 * (j + 1)) b.length := by have := of_decide_eq_false hc'; omega
      refine hK _ ?_
      clear hK K
      refine W.region tt_ok ?_
      simp only [exOps_nil, exOps_cons, exOp_eq, nx_eq, cur_eq, stepQ, ev, ofV, lk, putT, erA, inB, opt, bnd, req, ret, onQ, ap, binG, binF, intF, thn_normal, true_and, and_self, Nat.reduceEqDiff, Nat.reduceLT, Nat.reduceAdd, if_true, if_false, q3]
      refine hK3 _ (j + 1) (by omega) (by omega) ?_
      rw [hie]
      simp [wk, leL, lk, nmT, nmE, nmH, AV.nmIn, AV.nmInL, Ent.nmIn, Row.nmIn]
  · simp only [thn_normal, thn_exit, inb_exit, if_true]
    clear hK K
    have hje : min (64 * j) b.length = b.length := by have := of_decide_eq_false hb'; omega
    rw [hje]
    have hxl := xorO_len key nonce count b b.length
    refine hK _ ?_
    clear hK K
    refine W.seqK fun K hK => W.regionK tt_ok ?_
    simp only [exOps_nil, exOps_cons, exOp_eq, nx_eq, cur_eq, stepQ, ev, ofV, lk, putT, erA, inB, opt, ret, onQ, ap, true_and, Nat.reduceEqDiff, Nat.reduceLT, Nat.reduceAdd, if_true, if_false]
    refine hK _ ?_
    clear hK K
    refine W.ret ?_
    simp only [fin_ret, finB, resQ, resV, leL, AV.nmIn, AV.nmInL, entsIn, lk, opt, bnd, req, ret, onQ, AV.isTup, and_true, true_and, and_self, Nat.reduceEqDiff, if_true, if_false, reduceCtorEq]
    simp [Nm, lk, Ent.nmIn, Row.nmIn, lk, and_self]
theorem xor_at (X : Nat) (key nonce : List Int) (count : Int) (b : List Int) (hk : key.length = 32) (hn : nonce.length = 12) (hb : b.length ≤ 65536) (hc : 0 ≤ count ∧ count < 4294967296) (he : count + ((b.length + 63) / 64 : Nat) ≤ 4294967296) :
    FnR Tryd.prog G 13 [.agg [.ints .u8 32 key], .agg [.ints .u8 12 nonce], .int .u32 count, .lstI .u8 b] [] (.tup [.sl X 1 0 b.length, .int .i64 0]) [(X, .vec 5 (.ints .u8 (xorO key nonce count b b.length)))] := by
  have h := (xor_own key nonce count b hk hn hb hc he).rename 336 X
  simpa [AV.map, AV.mapL, swp, enMap, Ent.map, Row.map] using h
theorem xor_ok (key nonce : List Int) (count : Int) (b : List Int) (hk : key.length = 32) (hn : nonce.length = 12) (hb : b.length ≤ 65536) (hc : 0 ≤ count ∧ count < 4294967296) (he : count + ((b.length + 63) / 64 : Nat) ≤ 4294967296) :
    FnR Tryd.prog G 13 [.agg [.ints .u8 32 key], .agg [.ints .u8 12 nonce], .int .u32 count, .lstI .u8 b] [] (.tup [.lstI .u8 (xorO key nonce count b b.length), .int .i64 0]) [] := by
  refine (xor_own key nonce count b hk hn hb hc he).valT (F := true) ⟨b.length ≤ (xorO key nonce count b b.length).length, ?_, by rw [xorO_len]; exact Nat.le_refl _⟩
  simp [vw.vwL, vw, viewR, Ent.row, lk, opt, bnd, req, ret, AV.nmIn, xorO_len]
  exact List.take_of_length_le (by rw [xorO_len]; exact Nat.le_refl _)
end Go.Proofs.YtakgcmponelbeaaDoor.Sm
