/- The reference's Xor. -/
import Derived.Test.YtakgcmponelbeaaDoorAmT
-- TT 3 5 22 36 38 24 51 23
set_option linter.unusedVariables false
set_option linter.unusedSimpArgs false
namespace Go.Proofs.YtakgcmponelbeaaDoor.Sm
open Sx
set_option maxRecDepth 100000
set_option maxHeartbeats 8000000
theorem call23 : Callable Tryd.prog 23 := ⟨_, Tryd.func23, by kernel_rfl, by kernel_rfl⟩
theorem call16 : Callable Tryd.prog 16 := ⟨_, Tryd.func16, by kernel_rfl, by kernel_rfl⟩
def xR (key nonce : List Int) (count : Int) (b : List Int) : Nat → List Int
  | 0 => []
  | i + 1 => xR key nonce count b i ++ [bits .xor .u8 (b.getD i 0) ((kS key nonce count (i / 64)).getD (i % 64) 0)]
theorem xR_len (key nonce : List Int) (count : Int) (b : List Int) : ∀ i, (xR key nonce count b i).length = i
  | 0 => rfl
  | i + 1 => by simp [xR, xR_len key nonce count b i]
def kB (key nonce : List Int) (count : Int) : Nat → List Int
  | 0 => List.replicate 64 0
  | i + 1 => kS key nonce count (i / 64)
def xI (key nonce : List Int) (count : Int) (b : List Int) : Nat → St
  | 0 => ⟨[(2, .int .u32 count), (3, .lstI .u8 b), (4, .ptr 0 0 0 1), (5, .ptr 16 0 0 1), (11, .ptr 272 0 0 1), (10, .nils), (12, .int .i64 ((0 : Nat) : Int))], [(0, .obj 22 (.agg [.ints .u8 32 key])), (16, .obj 36 (.agg [.ints .u8 12 nonce])), (272, .obj 51 (.agg [.ints .u8 64 (kB key nonce count 0)]))], 2000, 55⟩
  | i + 1 => ⟨[(2, .int .u32 count), (3, .lstI .u8 b), (4, .ptr 0 0 0 1), (5, .ptr 16 0 0 1), (11, .ptr 272 0 0 1), (10, .sl 1000 1 0 (i + 1)), (12, .int .i64 ((i + 1 : Nat) : Int))], [(0, .obj 22 (.agg [.ints .u8 32 key])), (16, .obj 36 (.agg [.ints .u8 12 nonce])), (272, .obj 51 (.agg [.ints .u8 64 (kB key nonce count (i + 1))])), (1000, .vec 5 (.ints .u8 (xR key nonce count b (i + 1))))], 2000, 55⟩
theorem xorR_big (key nonce : List Int) (count : Int) (b : List Int) (hbig : (65536 : Int) < b.length) :
    FnR Tryd.prog G 16 [.agg [.ints .u8 32 key], .agg [.ints .u8 12 nonce], .int .u32 count, .lstI .u8 b] [] (.tup [.nils, .int .i64 3]) [] := by
  refine FnR.of_walkT (m := 55) tt_ok Tryd.func16 rfl rfl (by simp) ?_
  rw [show Tryd.f16.results.toList = [.tmp 8, .tmp 9] from rfl]
  refine W.seqK fun K hK => W.regionK tt_ok ?_
  simp only [exOps_nil, exOps_cons, exOp_eq, nx_eq, cur_eq, stepQ, ev, ofV, lk, parT, putT, erA, inB, opt, req, ret, onQ, ap, up, er, AV.isTup, true_and, and_self, Nat.reduceEqDiff, Nat.reduceLT, Nat.reduceAdd, Nat.zero_add, if_true, if_false, reduceCtorEq]
  refine hK _ ?_
  clear hK K
  refine W.seqK fun K hK => ?_
  refine W.seqK fun K hK => W.regionK tt_ok ?_
  simp only [exOps_nil, exOps_cons, exOp_eq, exCall_eq, nx_eq, cur_eq, evL, stepQ, ev, ofV, lk, putT, erA, inB, opt, bnd, req, ret, onQ, ap, binG, binF, intF, bltQ, bltV, lenF, true_and, and_self, or_false, Nat.reduceEqDiff, Nat.reduceLT, Nat.reduceAdd, if_true, if_false, reduceCtorEq, List.getElem?_cons_zero, Option.bind_some, Option.map_some, tt_24]
  refine hK _ ?_
  clear hK K
  refine W.cond (b := true) (by simp only [ev, lk, Nat.reduceEqDiff, if_true, if_false, reduceCtorEq, decide_eq_true hbig]) (fun _ => ?_) (fun h => absurd h (by simp))
  refine W.seqK fun K hK => W.regionK tt_ok ?_
  simp only [exOps_nil, exOps_cons, exOp_eq, nx_eq, cur_eq, stepQ, ev, ofV, putT, erA, inB, opt, ret, onQ, ap, true_and, Nat.reduceEqDiff, Nat.reduceLT, Nat.reduceAdd, if_true, if_false, reduceCtorEq]
  refine hK _ ?_
  clear hK K
  refine W.ret ?_
  simp only [finT_ret, finTB, resQ, lk, opt, bnd, req, ret, onQ, AV.isTup, thn_ret, true_and, and_self, Nat.reduceEqDiff, if_true, if_false, reduceCtorEq, ne_eq]
  simp [vw.vwL, vw, AV.nmIn, AV.nmIn, bnd, req, ret, and_self, Nat.reduceAdd, Nat.zero_add, not_false_eq_true]
theorem xorR_end (key nonce : List Int) (count : Int) (b : List Int) (hbig : ¬ (65536 : Int) < b.length) (hc : 0 ≤ count ∧ count < 4294967296) (he : 4294967296 < count + ((b.length + 63) / 64 : Nat)) :
    FnR Tryd.prog G 16 [.agg [.ints .u8 32 key], .agg [.ints .u8 12 nonce], .int .u32 count, .lstI .u8 b] [] (.tup [.nils, .int .i64 12]) [] := by
  have a1 : IntKind.i64.wrap ((b.length : Int) + 63) = ((b.length + 63 : Nat) : Int) := by rw [IntKind.wrap_i64]; omega
  have a3 : Int.tdiv ((b.length + 63 : Nat) : Int) 64 = (((b.length + 63) / 64 : Nat) : Int) := by rw [Int.tdiv_eq_ediv_of_nonneg (by omega)]; omega
  have a4 : IntKind.i64.wrap (((b.length + 63) / 64 : Nat) : Int) = (((b.length + 63) / 64 : Nat) : Int) := by rw [IntKind.wrap_i64]; omega
  have a5 : IntKind.u64.wrap (((b.length + 63) / 64 : Nat) : Int) = (((b.length + 63) / 64 : Nat) : Int) := by rw [IntKind.wrap_u64]; omega
  have a6 : IntKind.u64.wrap count = count := by rw [IntKind.wrap_u64]; omega
  have a7 : IntKind.u64.wrap (count + (((b.length + 63) / 64 : Nat) : Int)) = count + (((b.length + 63) / 64 : Nat) : Int) := by rw [IntKind.wrap_u64]; omega
  refine FnR.of_walkT (m := 55) tt_ok Tryd.func16 rfl rfl (by simp) ?_
  rw [show Tryd.f16.results.toList = [.tmp 8, .tmp 9] from rfl]
  refine W.seqK fun K hK => W.regionK tt_ok ?_
  simp only [exOps_nil, exOps_cons, exOp_eq, nx_eq, cur_eq, stepQ, ev, ofV, lk, parT, putT, erA, inB, opt, req, ret, onQ, ap, up, er, AV.isTup, true_and, and_self, Nat.reduceEqDiff, Nat.reduceLT, Nat.reduceAdd, Nat.zero_add, if_true, if_false, reduceCtorEq]
  refine hK _ ?_
  clear hK K
  refine W.seqK fun K hK => ?_
  refine W.seqK fun K hK => W.regionK tt_ok ?_
  simp only [exOps_nil, exOps_cons, exOp_eq, exCall_eq, nx_eq, cur_eq, evL, stepQ, ev, ofV, lk, putT, erA, inB, opt, bnd, req, ret, onQ, ap, binG, binF, intF, bltQ, bltV, lenF, true_and, and_self, or_false, Nat.reduceEqDiff, Nat.reduceLT, Nat.reduceAdd, if_true, if_false, reduceCtorEq, List.getElem?_cons_zero, Option.bind_some, Option.map_some, tt_24]
  refine hK _ ?_
  clear hK K
  refine W.cond (b := false) (by simp only [ev, lk, Nat.reduceEqDiff, if_true, if_false, reduceCtorEq, decide_eq_false hbig]) (fun h => absurd h (by simp)) (fun _ => W.skip ?_)
  rw [thn_normal]
  refine hK _ ?_
  clear hK K
  refine W.seqK fun K hK => ?_
  refine W.seqK fun K hK => W.regionK tt_ok ?_
  simp only [exOps_nil, exOps_cons, exOp_eq, exCall_eq, nx_eq, cur_eq, evL, stepQ, ev, ofV, lk, putT, erA, inB, opt, bnd, req, ret, onQ, ap, binG, binF, intF, bltQ, bltV, lenF, cvQ, and_true, true_and, and_self, or_false, Nat.reduceEqDiff, Nat.reduceLT, Nat.reduceAdd, if_true, if_false, reduceCtorEq, ne_eq, List.getElem?_cons_zero, Option.bind_some, Option.map_some, tt_3, tt_38, tt_24, tt_23, a1, a3, a4, a5, a6, a7]
  repeat (refine ⟨by omega, ?_⟩)
  refine hK _ ?_
  clear hK K
  refine W.cond (b := true) (by simp only [ev, lk, Nat.reduceEqDiff, if_true, if_false, reduceCtorEq, decide_eq_true he]) (fun _ => ?_) (fun h => absurd h (by simp))
  refine W.seqK fun K hK => W.regionK tt_ok ?_
  simp only [exOps_nil, exOps_cons, exOp_eq, nx_eq, cur_eq, stepQ, ev, ofV, putT, erA, inB, opt, ret, onQ, ap, true_and, Nat.reduceEqDiff, Nat.reduceLT, Nat.reduceAdd, if_true, if_false, reduceCtorEq]
  refine hK _ ?_
  clear hK K
  refine W.ret ?_
  simp only [finT_ret, finTB, resQ, lk, opt, bnd, req, ret, onQ, AV.isTup, thn_ret, true_and, and_self, Nat.reduceEqDiff, if_true, if_false, reduceCtorEq, ne_eq]
  simp [vw.vwL, vw, AV.nmIn, AV.nmIn, bnd, req, ret, and_self, Nat.reduceAdd, Nat.zero_add, not_false_eq_true]
theorem xorR_own (key nonce : List Int) (count : Int) (b : List Int) (hbig : ¬ (65536 : Int) < b.length) (hpos : 0 < b.length) (hk : key.length = 32) (hn : nonce.length = 12) (hK1 : Bt key) (hN1 : Bt nonce) (hc : 0 ≤ count ∧ count < 4294967296) (he : ¬ 4294967296 < count + ((b.length + 63) / 64 : Nat))
    (blockR_fn' : ∀ {key nonce : List Int} (count : Int), key.length = 32 → nonce.length = 12 → Bt key → Bt nonce → FnR Tryd.prog G 23 [.agg [.ints .u8 32 key], .agg [.ints .u8 12 nonce], .int .u32 count] [] (.agg [.ints .u8 64 (blockS key nonce count)]) []) :
    FnR Tryd.prog G 16 [.agg [.ints .u8 32 key], .agg [.ints .u8 12 nonce], .int .u32 count, .lstI .u8 b] [] (.tup [.sl 1000 1 0 b.length, .int .i64 0]) [(1000, .vec 5 (.ints .u8 (xR key nonce count b b.length)))] := by
  have a1 : IntKind.i64.wrap ((b.length : Int) + 63) = ((b.length + 63 : Nat) : Int) := by rw [IntKind.wrap_i64]; omega
  have a3 : Int.tdiv ((b.length + 63 : Nat) : Int) 64 = (((b.length + 63) / 64 : Nat) : Int) := by rw [Int.tdiv_eq_ediv_of_nonneg (by omega)]; omega
  have a4 : IntKind.i64.wrap (((b.length + 63) / 64 : Nat) : Int) = (((b.length + 63) / 64 : Nat) : Int) := by rw [IntKind.wrap_i64]; omega
  have a5 : IntKind.u64.wrap (((b.length + 63) / 64 : Nat) : Int) = (((b.length + 63) / 64 : Nat) : Int) := by rw [IntKind.wrap_u64]; omega
  have a6 : IntKind.u64.wrap count = count := by rw [IntKind.wrap_u64]; omega
  have a7 : IntKind.u64.wrap (count + (((b.length + 63) / 64 : Nat) : Int)) = count + (((b.length + 63) / 64 : Nat) : Int) := by rw [IntKind.wrap_u64]; omega
  refine FnR.of_walk (m := 55) (n0 := 0) tt_ok Tryd.func16 rfl rfl (by simp) (by simp [nmH]) ?_
  rw [show Tryd.f16.results.toList = [.tmp 8, .tmp 9] from rfl]
  refine W.seqK fun K hK => W.regionK tt_ok ?_
  simp only [exOps_nil, exOps_cons, exOp_eq, nx_eq, cur_eq, stepQ, ev, ofV, lk, parT, putT, erA, inB, opt, req, ret, onQ, ap, up, er, AV.isTup, true_and, and_self, Nat.reduceEqDiff, Nat.reduceLT, Nat.reduceAdd, Nat.zero_add, if_true, if_false, reduceCtorEq]
  refine hK _ ?_
  clear hK K
  refine W.seqK fun K hK => ?_
  refine W.seqK fun K hK => W.regionK tt_ok ?_
  simp only [exOps_nil, exOps_cons, exOp_eq, exCall_eq, nx_eq, cur_eq, evL, stepQ, ev, ofV, lk, putT, erA, inB, opt, bnd, req, ret, onQ, ap, binG, binF, intF, bltQ, bltV, lenF, true_and, and_self, or_false, Nat.reduceEqDiff, Nat.reduceLT, Nat.reduceAdd, if_true, if_false, reduceCtorEq, List.getElem?_cons_zero, Option.bind_some, Option.map_some, tt_24]
  refine hK _ ?_
  clear hK K
  refine W.cond (b := false) (by simp only [ev, lk, Nat.reduceEqDiff, if_true, if_false, reduceCtorEq, decide_eq_false hbig]) (fun h => absurd h (by simp)) (fun _ => W.skip ?_)
  rw [thn_normal]
  refine hK _ ?_
  clear hK K
  refine W.seqK fun K hK => ?_
  refine W.seqK fun K hK => W.regionK tt_ok ?_
  simp only [exOps_nil, exOps_cons, exOp_eq, exCall_eq, nx_eq, cur_eq, evL, stepQ, ev, ofV, lk, putT, erA, inB, opt, bnd, req, ret, onQ, ap, binG, binF, intF, bltQ, bltV, lenF, cvQ, and_true, true_and, and_self, or_false, Nat.reduceEqDiff, Nat.reduceLT, Nat.reduceAdd, if_true, if_false, reduceCtorEq, ne_eq, List.getElem?_cons_zero, Option.bind_some, Option.map_some, tt_3, tt_38, tt_24, tt_23, a1, a3, a4, a5, a6, a7]
  repeat (refine ⟨by omega, ?_⟩)
  refine hK _ ?_
  clear hK K
  refine W.cond (b := false) (by simp only [ev, lk, Nat.reduceEqDiff, if_true, if_false, reduceCtorEq, decide_eq_false he]) (fun h => absurd h (by simp)) (fun _ => W.skip ?_)
  rw [thn_normal]
  refine hK _ ?_
  clear hK K
  refine W.seqK fun K hK => W.regionK tt_ok ?_
  simp only [exOps_nil, exOps_cons, exOp_eq, nx_eq, cur_eq, stepQ, ev, ofV, putT, erA, inB, opt, ret, onQ, ap, true_and, Nat.reduceEqDiff, Nat.reduceLT, Nat.reduceAdd, if_false, reduceCtorEq]
  refine hK _ ?_
  clear hK K
  refine W.seqK fun K hK => W.regionK tt_ok ?_
  simp only [exOps_nil, exOps_cons, exOp_eq, nx_eq, cur_eq, stepQ, putT, erA, inB, opt, ret, onQ, ap, up, er, true_and, Nat.reduceEqDiff, Nat.reduceLT, Nat.reduceAdd, if_false, reduceCtorEq, tt_51]
  refine hK _ ?_
  clear hK K
  refine W.seqK fun Kz hKz => ?_
  refine W.seqK fun K hK => W.regionK tt_ok ?_
  simp only [exOps_nil, exOps_cons, exOp_eq, nx_eq, cur_eq, stepQ, ev, ofV, putT, erA, inB, opt, ret, onQ, ap, true_and, Nat.reduceEqDiff, Nat.reduceLT, Nat.reduceAdd, if_false, reduceCtorEq]
  refine hK _ ?_
  clear hK K
  refine W.blockK ?_
  refine W.loopS (fun i : Nat => i ≤ b.length) (xI key nonce count b) (fun i => b.length - i) 0 (by simp) (by simp [wk, leL, lk, nmT, nmE, nmH, AV.nmIn, AV.nmInL, Ent.nmIn, xI, kB]) ?_
  intro i hi K3 hK3
  match i, hi with
  | 0, hi =>
    simp only [xI]
    refine W.seqK fun K hK => ?_
    refine W.seqK fun K hK => W.regionK tt_ok ?_
    simp only [exOps_nil, exOps_cons, exOp_eq, exCall_eq, nx_eq, cur_eq, evL, stepQ, ev, lk, putT, erA, inB, opt, bnd, req, ret, onQ, ap, binG, binF, intF, bltQ, bltV, lenF, true_and, and_self, or_false, Nat.reduceEqDiff, Nat.reduceLT, Nat.reduceAdd, if_true, if_false, List.getElem?_cons_zero, Option.bind_some, Option.map_some, tt_24]
    refine hK _ ?_
    clear hK K
    refine W.cond (b := decide (((0 : Nat) : Int) < b.length)) (by simp only [ev, lk, Nat.reduceEqDiff, if_true, if_false]) (fun hb' => W.skip ?_) (fun hb' => W.exit ?_)
    · rw [thn_normal]
      have hlt : 0 < b.length := by have := of_decide_eq_true hb'; omega
      have hkl : (kS key nonce count ((0) / 64)).length = 64 := blockS_len _ _ _
      have m1 : Int.tmod ((0 : Nat) : Int) 64 = (((0) % 64 : Nat) : Int) := by rw [Int.tmod_eq_emod_of_nonneg (by omega)]; omega
      have d1 : Int.tdiv ((0 : Nat) : Int) 64 = (((0) / 64 : Nat) : Int) := by rw [Int.tdiv_eq_ediv_of_nonneg (by omega)]; omega
      have d2 : IntKind.i64.wrap (((0) / 64 : Nat) : Int) = (((0) / 64 : Nat) : Int) := by rw [IntKind.wrap_i64]; omega
      have hbc := blockR_fn' (key := key) (nonce := nonce) (IntKind.u32.wrap (count + IntKind.u32.wrap (((0) / 64 : Nat) : Int))) hk hn hK1 hN1
      have hks : blockS key nonce (IntKind.u32.wrap (count + IntKind.u32.wrap (((0) / 64 : Nat) : Int))) = kS key nonce count ((0) / 64) := rfl
      rw [hks] at hbc
      refine hK _ ?_
      clear hK K
      refine W.seqK fun Kr hKr => W.blockK ?_
      refine W.joinK ⟨[(2, .int .u32 count), (3, .lstI .u8 b), (4, .ptr 0 0 0 1), (5, .ptr 16 0 0 1), (11, .ptr 272 0 0 1), (10, .nils), (12, .int .i64 ((0 : Nat) : Int))], [(0, .obj 22 (.agg [.ints .u8 32 key])), (16, .obj 36 (.agg [.ints .u8 12 nonce])), (272, .obj 51 (.agg [.ints .u8 64 (kS key nonce count ((0) / 64))]))], 2500, 55⟩ (fun Kj hKj => ?_) ?_
      · refine W.seqK fun K hK => W.regionK tt_ok ?_
        simp only [exOps_nil, exOps_cons, exOp_eq, nx_eq, cur_eq, stepQ, ev, ofV, lk, putT, erA, inB, opt, bnd, req, ret, onQ, ap, binG, binF, intF, and_true, true_and, and_self, Nat.reduceEqDiff, Nat.reduceLT, Nat.reduceAdd, if_true, if_false, ne_eq, m1]
        repeat (refine ⟨by omega, ?_⟩)
        refine hK _ ?_
        clear hK K
        refine W.cond (b := ((((0) % 64 : Nat) : Int) == 0)) (by simp only [ev, lk, Nat.reduceEqDiff, if_true, if_false]) (fun hc => ?_) (fun hc => W.skip ?_)
        · refine W.region tt_ok ?_
          simp only [exOps_cons, exOp_eq, exCall_eq, nx_eq, cur_eq, evL, stepQ, ev, ofV, lk, putT, erA, inB, opt, bnd, req, ret, onQ, ap, binG, binF, intF, ldP, ldE, ldC, ldS, Kd.agg, comps, csize, takeI, takeC, dropC, cvQ, and_true, true_and, and_self, Nat.reduceEqDiff, Nat.reduceLT, Nat.reduceLeDiff, Nat.reduceAdd, Nat.reduceSub, Nat.reduceDiv, Nat.sub_self, Nat.le_refl, Nat.add_zero, if_true, if_false, reduceCtorEq, ne_eq, Option.bind_some, Option.map_some, tt_3, tt_22, tt_36, tt_38, d1, d2]
          repeat (refine ⟨by omega, ?_⟩)
          refine CallK.pure _ _ hbc call23 (by simp only [AV.nmIn, bnd, req, ret, onQ, AV.isTup, isTupL, true_and, and_self, Nat.reduceDiv, Bool.false_eq_true, List.append_nil, vw.vwL, vw, AV.free, AV.freeL, Bool.or_self]; all_goals (and_intros <;> first | exact AV.subL_refl _ | omega | rfl | (simp []; done) | (simp; exact AV.subL_refl _) | (simp [AV.subL, AV.sub]; done))) ?_
          simp only [exOps_nil, exOps_cons, exOp_eq, nx_eq, cur_eq, stepQ, ev, lk, putT, erA, inB, opt, bnd, req, ret, onQ, ap, up, er, AV.isAgg, Kd.agg, comps, szL, csize, takeI, takeC, dropC, stP, stE, stC, stS, thn_normal, true_and, and_self, Nat.reduceEqDiff, Nat.reduceLT, Nat.reduceLeDiff, Nat.reduceAdd, Nat.reduceSub, Nat.reduceDiv, Nat.sub_self, Nat.le_refl, Nat.add_zero, Nat.zero_add, if_true, if_false, reduceCtorEq, Option.bind_some, Option.map_some, List.append_nil, List.nil_append, tt_51]
          repeat (refine ⟨by omega, ?_⟩)
          refine hKj _ ?_
          simp [wk, leL, lk, nmT, nmE, nmH, AV.nmIn, AV.nmInL, Ent.nmIn]
        · rw [thn_normal]
          have hm : ¬ (0) % 64 = 0 := by have := beq_eq_false_iff_ne.1 hc; omega
          refine hKj _ ?_
          omega
      · have hxl := xR_len key nonce count b 0
        refine exD_sound (A := [⟨0, false, []⟩, ⟨0, false, []⟩, ⟨0, false, []⟩, ⟨0, false, [1, 2]⟩, ⟨0, false, [1, 2, 3]⟩, ⟨0, false, []⟩, ⟨0, false, [5]⟩, ⟨0, false, [5, 6]⟩, ⟨0, false, [5, 6, 7]⟩, ⟨0, false, [1, 2, 3, 4, 5, 6, 7, 8]⟩, ⟨1, false, [1, 2, 3, 4, 5, 6, 7, 8, 9]⟩, ⟨2, false, [0, 1, 2, 3, 4, 5, 6, 7, 8, 9, 10]⟩, ⟨0, false, [0, 1, 2, 3, 4, 5, 6, 7, 8, 9, 10, 11]⟩]) mix tt_ok (by kernel_rfl) ?_
        simp only [exOp_eq, exCall_eq, exD_nil, exD_cons, nxD_eq, cur_eq, curV_eq, flI, ownB, ownL, evL, evP, stepQ, ev, ofV, lk, putT, erA, inB, opt, bnd, req, ret, onQ, ap, up, er, AV.isTup, AV.isAgg, binG, binF, intF, intsOf, Kd.elem, Kd.isInt, ixA, asI, ldP, ldE, ldC, ldS, Kd.agg, comps, szL, csize, takeI, takeC, dropC, stC, stS, bltQ, bltV, appQ, appV, srcQ, Row.len, Row.sz, Row.take, Row.drop, Ent.row, Row.lst, bldA, bslQ, zeroCs, cellsRow, thn_normal, inb_normal, and_true, true_and, and_self, and_false, Nat.reduceEqDiff, Nat.reduceLT, Nat.reduceLeDiff, Nat.reduceAdd, Nat.reduceSub, Nat.reduceMul, Nat.reduceDiv, Nat.sub_self, Int.toNat_natCast, Nat.le_refl, Nat.add_zero, Nat.zero_add, if_true, if_false, Bool.false_eq_true, reduceCtorEq, ne_eq, not_false_eq_true, Option.bind_some, Option.map_some, List.append_nil, List.nil_append, List.cons_append, tt_5, tt_24, tt_51, m1, show List.replicate 1 (0 : Int) = [0] from rfl, List.set_cons_zero, List.length_cons, List.length_nil, List.drop_zero, List.take_succ_cons, List.take_zero, Nat.one_ne_zero, Nat.zero_add]
        repeat (refine ⟨by omega, ?_⟩)
        refine Or.inl ?_
        refine hKr _ ?_
        clear hKr Kr
        refine W.region tt_ok ?_
        simp only [exOps_nil, exOps_cons, exOp_eq, nx_eq, cur_eq, stepQ, ev, ofV, lk, putT, erA, inB, opt, bnd, req, ret, onQ, ap, binG, binF, intF, thn_normal, true_and, and_self, Nat.reduceEqDiff, Nat.reduceLT, Nat.reduceAdd, Nat.zero_add, if_true, if_false, wrap_up 0 (by omega)]
        refine hK3 _ 1 2676 1000 (by omega) (by omega) ⟨⟨by simp [Nm, lk], by simp [Nm, lk]⟩, by simp, by simp⟩ ?_
        simp [St.swap, tmMap, enMap, swp, AV.map, AV.mapL, Ent.map, Row.map, wk, leL, lk, nmT, nmE, nmH, AV.nmIn, AV.nmInL, Ent.nmIn, Row.nmIn, xI, xR, kB]
    · exfalso
      have := of_decide_eq_false hb'
      omega
  | i + 1, hi =>
    simp only [xI]
    refine W.seqK fun K hK => ?_
    refine W.seqK fun K hK => W.regionK tt_ok ?_
    simp only [exOps_nil, exOps_cons, exOp_eq, exCall_eq, nx_eq, cur_eq, evL, stepQ, ev, lk, putT, erA, inB, opt, bnd, req, ret, onQ, ap, binG, binF, intF, bltQ, bltV, lenF, true_and, and_self, or_false, Nat.reduceEqDiff, Nat.reduceLT, Nat.reduceAdd, if_true, if_false, List.getElem?_cons_zero, Option.bind_some, Option.map_some, tt_24]
    refine hK _ ?_
    clear hK K
    refine W.cond (b := decide (((i + 1 : Nat) : Int) < b.length)) (by simp only [ev, lk, Nat.reduceEqDiff, if_true, if_false]) (fun hb' => W.skip ?_) (fun hb' => W.exit ?_)
    · rw [thn_normal]
      have hlt : i + 1 < b.length := by have := of_decide_eq_true hb'; omega
      have hkl : (kS key nonce count ((i + 1) / 64)).length = 64 := blockS_len _ _ _
      have m1 : Int.tmod ((i + 1 : Nat) : Int) 64 = (((i + 1) % 64 : Nat) : Int) := by rw [Int.tmod_eq_emod_of_nonneg (by omega)]; omega
      have d1 : Int.tdiv ((i + 1 : Nat) : Int) 64 = (((i + 1) / 64 : Nat) : Int) := by rw [Int.tdiv_eq_ediv_of_nonneg (by omega)]; omega
      have d2 : IntKind.i64.wrap (((i + 1) / 64 : Nat) : Int) = (((i + 1) / 64 : Nat) : Int) := by rw [IntKind.wrap_i64]; omega
      have hbc := blockR_fn' (key := key) (nonce := nonce) (IntKind.u32.wrap (count + IntKind.u32.wrap (((i + 1) / 64 : Nat) : Int))) hk hn hK1 hN1
      have hks : blockS key nonce (IntKind.u32.wrap (count + IntKind.u32.wrap (((i + 1) / 64 : Nat) : Int))) = kS key nonce count ((i + 1) / 64) := rfl
      rw [hks] at hbc
      refine hK _ ?_
      clear hK K
      refine W.seqK fun Kr hKr => W.blockK ?_
      refine W.joinK ⟨[(2, .int .u32 count), (3, .lstI .u8 b), (4, .ptr 0 0 0 1), (5, .ptr 16 0 0 1), (11, .ptr 272 0 0 1), (10, .sl 1000 1 0 (i + 1)), (12, .int .i64 ((i + 1 : Nat) : Int))], [(0, .obj 22 (.agg [.ints .u8 32 key])), (16, .obj 36 (.agg [.ints .u8 12 nonce])), (272, .obj 51 (.agg [.ints .u8 64 (kS key nonce count ((i + 1) / 64))])), (1000, .vec 5 (.ints .u8 (xR key nonce count b (i + 1))))], 2500, 55⟩ (fun Kj hKj => ?_) ?_
      · refine W.seqK fun K hK => W.regionK tt_ok ?_
        simp only [exOps_nil, exOps_cons, exOp_eq, nx_eq, cur_eq, stepQ, ev, ofV, lk, putT, erA, inB, opt, bnd, req, ret, onQ, ap, binG, binF, intF, and_true, true_and, and_self, Nat.reduceEqDiff, Nat.reduceLT, Nat.reduceAdd, if_true, if_false, ne_eq, m1]
        repeat (refine ⟨by omega, ?_⟩)
        refine hK _ ?_
        clear hK K
        refine W.cond (b := ((((i + 1) % 64 : Nat) : Int) == 0)) (by simp only [ev, lk, Nat.reduceEqDiff, if_true, if_false]) (fun hc => ?_) (fun hc => W.skip ?_)
        · refine W.region tt_ok ?_
          simp only [exOps_cons, exOp_eq, exCall_eq, nx_eq, cur_eq, evL, stepQ, ev, ofV, lk, putT, erA, inB, opt, bnd, req, ret, onQ, ap, binG, binF, intF, ldP, ldE, ldC, ldS, Kd.agg, comps, csize, takeI, takeC, dropC, cvQ, and_true, true_and, and_self, Nat.reduceEqDiff, Nat.reduceLT, Nat.reduceLeDiff, Nat.reduceAdd, Nat.reduceSub, Nat.sub_self, Nat.le_refl, Nat.add_zero, if_true, if_false, reduceCtorEq, ne_eq, Option.bind_some, Option.map_some, tt_3, tt_22, tt_36, tt_38, d1, d2]
          repeat (refine ⟨by omega, ?_⟩)
          refine CallK.pure _ _ hbc call23 (by simp only [AV.nmIn, bnd, req, ret, onQ, AV.isTup, isTupL, true_and, and_self, Bool.false_eq_true, List.append_nil, vw.vwL, vw, AV.free, AV.freeL, Bool.or_self]; all_goals (and_intros <;> first | exact AV.subL_refl _ | omega | rfl | (simp []; done) | (simp; exact AV.subL_refl _) | (simp [AV.subL, AV.sub]; done))) ?_
          simp only [exOps_nil, exOps_cons, exOp_eq, nx_eq, cur_eq, stepQ, ev, lk, putT, erA, inB, opt, bnd, req, ret, onQ, ap, up, er, AV.isAgg, Kd.agg, comps, szL, csize, takeI, takeC, dropC, stP, stE, stC, stS, thn_normal, true_and, and_self, Nat.reduceEqDiff, Nat.reduceLT, Nat.reduceLeDiff, Nat.reduceAdd, Nat.reduceSub, Nat.sub_self, Nat.le_refl, Nat.add_zero, Nat.zero_add, if_true, if_false, reduceCtorEq, Option.bind_some, Option.map_some, List.append_nil, List.nil_append, tt_51]
          repeat (refine ⟨by omega, ?_⟩)
          refine hKj _ ?_
          simp [wk, leL, lk, nmT, nmE, nmH, AV.nmIn, AV.nmInL, Ent.nmIn, Row.nmIn]
        · rw [thn_normal]
          have hm : ¬ (i + 1) % 64 = 0 := by have := beq_eq_false_iff_ne.1 hc; omega
          refine hKj _ ?_
          have hz : kB key nonce count (i + 1) = kS key nonce count ((i + 1) / 64) := by
            have e : i / 64 = (i + 1) / 64 := by omega
            rw [kB, e]
          rw [hz]
          simp [wk, leL, lk, nmT, nmE, nmH, AV.nmIn, AV.nmInL, Ent.nmIn, Row.nmIn]
      · have hxl := xR_len key nonce count b (i + 1)
        refine exD_sound (A := [⟨0, false, []⟩, ⟨0, false, []⟩, ⟨0, false, []⟩, ⟨0, false, [1, 2]⟩, ⟨0, false, [1, 2, 3]⟩, ⟨0, false, []⟩, ⟨0, false, [5]⟩, ⟨0, false, [5, 6]⟩, ⟨0, false, [5, 6, 7]⟩, ⟨0, false, [1, 2, 3, 4, 5, 6, 7, 8]⟩, ⟨1, false, [1, 2, 3, 4, 5, 6, 7, 8, 9]⟩, ⟨2, false, [0, 1, 2, 3, 4, 5, 6, 7, 8, 9, 10]⟩, ⟨0, false, [0, 1, 2, 3, 4, 5, 6, 7, 8, 9, 10, 11]⟩]) mix tt_ok (by kernel_rfl) ?_
        simp only [exOp_eq, exCall_eq, exD_nil, exD_cons, nxD_eq, cur_eq, flI, ownB, ownL, evL, evP, stepQ, ev, ofV, lk, putT, erA, inB, opt, bnd, req, ret, onQ, ap, up, er, AV.isTup, AV.isAgg, binG, binF, intF, intsOf, Kd.elem, Kd.isInt, ixA, asI, ldP, ldE, ldC, ldS, Kd.agg, comps, szL, csize, takeI, takeC, dropC, stC, stS, bltQ, bltV, appQ, appV, srcQ, Row.len, Row.sz, Row.take, Row.drop, Row.app, Ent.row, bldA, bslQ, zeroCs, cellsRow, thn_normal, inb_normal, and_true, true_and, and_self, and_false, or_false, Nat.reduceEqDiff, Nat.reduceLT, Nat.reduceLeDiff, Nat.reduceAdd, Nat.reduceSub, Nat.reduceMul, Nat.sub_self, Int.toNat_natCast, Nat.le_refl, Nat.add_zero, Nat.zero_add, if_true, if_false, Bool.false_eq_true, reduceCtorEq, ne_eq, Option.bind_some, Option.map_some, List.append_nil, List.nil_append, List.cons_append, tt_5, tt_24, tt_51, m1, show List.replicate 1 (0 : Int) = [0] from rfl, List.set_cons_zero, List.length_cons, List.length_nil, List.drop_zero, List.take_succ_cons, List.take_zero, Nat.one_ne_zero, Nat.zero_add, hxl]
        repeat (refine ⟨by omega, ?_⟩)
        refine hKr _ ?_
        clear hKr Kr
        refine W.region tt_ok ?_
        simp only [exOps_nil, exOps_cons, exOp_eq, nx_eq, cur_eq, stepQ, ev, ofV, lk, putT, erA, inB, opt, bnd, req, ret, onQ, ap, binG, binF, intF, thn_normal, true_and, and_self, Nat.reduceEqDiff, Nat.reduceLT, Nat.reduceAdd, if_true, if_false, wrap_up (i + 1) (by omega)]
        refine hK3 _ (i + 2) 2676 1000 (by omega) (by omega) ⟨⟨by simp [Nm, lk], by simp [Nm, lk]⟩, by simp, by simp⟩ ?_
        have hxt : List.take (i + 1) (xR key nonce count b (i + 1)) = xR key nonce count b (i + 1) := List.take_of_length_le (by rw [hxl]; exact Nat.le_refl _)
        rw [hxt]
        simp [St.swap, tmMap, enMap, swp, AV.map, AV.mapL, Ent.map, Row.map, wk, leL, lk, nmT, nmE, nmH, AV.nmIn, AV.nmInL, Ent.nmIn, Row.nmIn, xI, xR, kB]
    · simp only [thn_normal, thn_exit, inb_exit, if_true]
      clear hK K
      have hie : i + 1 = b.length := by have := of_decide_eq_false hb'; omega
      refine hKz _ ?_
      clear hKz Kz hK3 K3
      rw [hie]
      refine W.seqK fun K hK => W.regionK tt_ok ?_
      simp only [exOps_nil, exOps_cons, exOp_eq, nx_eq, cur_eq, stepQ, ev, ofV, lk, putT, erA, inB, opt, ret, onQ, ap, true_and, Nat.reduceEqDiff, Nat.reduceLT, Nat.reduceAdd, if_true, if_false]
      refine hK _ ?_
      clear hK K
      refine W.ret ?_
      simp only [fin_ret, finB, resQ, resV, leL, AV.nmIn, AV.nmInL, entsIn, lk, opt, bnd, req, ret, onQ, AV.isTup, and_true, true_and, and_self, Nat.reduceEqDiff, if_true, if_false, reduceCtorEq]
      simp [Nm, lk, Ent.nmIn, Row.nmIn]
theorem xorR_nil (key nonce : List Int) (count : Int) (b : List Int) (hb0 : b.length = 0) (hbig : ¬ (65536 : Int) < b.length) (hc : 0 ≤ count ∧ count < 4294967296) (he : ¬ 4294967296 < count + ((b.length + 63) / 64 : Nat)) :
    FnR Tryd.prog G 16 [.agg [.ints .u8 32 key], .agg [.ints .u8 12 nonce], .int .u32 count, .lstI .u8 b] [] (.tup [.nils, .int .i64 0]) [] := by
  have a1 : IntKind.i64.wrap ((b.length : Int) + 63) = ((b.length + 63 : Nat) : Int) := by rw [IntKind.wrap_i64]; omega
  have a3 : Int.tdiv ((b.length + 63 : Nat) : Int) 64 = (((b.length + 63) / 64 : Nat) : Int) := by rw [Int.tdiv_eq_ediv_of_nonneg (by omega)]; omega
  have a4 : IntKind.i64.wrap (((b.length + 63) / 64 : Nat) : Int) = (((b.length + 63) / 64 : Nat) : Int) := by rw [IntKind.wrap_i64]; omega
  have a5 : IntKind.u64.wrap (((b.length + 63) / 64 : Nat) : Int) = (((b.length + 63) / 64 : Nat) : Int) := by rw [IntKind.wrap_u64]; omega
  have a6 : IntKind.u64.wrap count = count := by rw [IntKind.wrap_u64]; omega
  have a7 : IntKind.u64.wrap (count + (((b.length + 63) / 64 : Nat) : Int)) = count + (((b.length + 63) / 64 : Nat) : Int) := by rw [IntKind.wrap_u64]; omega
  refine FnR.of_walkT (m := 55) tt_ok Tryd.func16 rfl rfl (by simp) ?_
  rw [show Tryd.f16.results.toList = [.tmp 8, .tmp 9] from rfl]
  refine W.seqK fun K hK => W.regionK tt_ok ?_
  simp only [exOps_nil, exOps_cons, exOp_eq, nx_eq, cur_eq, stepQ, ev, ofV, lk, parT, putT, erA, inB, opt, req, ret, onQ, ap, up, er, AV.isTup, true_and, and_self, Nat.reduceEqDiff, Nat.reduceLT, Nat.reduceAdd, Nat.zero_add, if_true, if_false, reduceCtorEq]
  refine hK _ ?_
  clear hK K
  refine W.seqK fun K hK => ?_
  refine W.seqK fun K hK => W.regionK tt_ok ?_
  simp only [exOps_nil, exOps_cons, exOp_eq, exCall_eq, nx_eq, cur_eq, evL, stepQ, ev, ofV, lk, putT, erA, inB, opt, bnd, req, ret, onQ, ap, binG, binF, intF, bltQ, bltV, lenF, true_and, and_self, or_false, Nat.reduceEqDiff, Nat.reduceLT, Nat.reduceAdd, if_true, if_false, reduceCtorEq, List.getElem?_cons_zero, Option.bind_some, Option.map_some, tt_24]
  refine hK _ ?_
  clear hK K
  refine W.cond (b := false) (by simp only [ev, lk, Nat.reduceEqDiff, if_true, if_false, reduceCtorEq, decide_eq_false hbig]) (fun h => absurd h (by simp)) (fun _ => W.skip ?_)
  rw [thn_normal]
  refine hK _ ?_
  clear hK K
  refine W.seqK fun K hK => ?_
  refine W.seqK fun K hK => W.regionK tt_ok ?_
  simp only [exOps_nil, exOps_cons, exOp_eq, exCall_eq, nx_eq, cur_eq, evL, stepQ, ev, ofV, lk, putT, erA, inB, opt, bnd, req, ret, onQ, ap, binG, binF, intF, bltQ, bltV, lenF, cvQ, and_true, true_and, and_self, or_false, Nat.reduceEqDiff, Nat.reduceLT, Nat.reduceAdd, if_true, if_false, reduceCtorEq, ne_eq, List.getElem?_cons_zero, Option.bind_some, Option.map_some, tt_3, tt_38, tt_24, tt_23, a1, a3, a4, a5, a6, a7]
  repeat (refine ⟨by omega, ?_⟩)
  refine hK _ ?_
  clear hK K
  refine W.cond (b := false) (by simp only [ev, lk, Nat.reduceEqDiff, if_true, if_false, reduceCtorEq, decide_eq_false he]) (fun h => absurd h (by simp)) (fun _ => W.skip ?_)
  rw [thn_normal]
  refine hK _ ?_
  clear hK K
  refine W.seqK fun K hK => W.regionK tt_ok ?_
  simp only [exOps_nil, exOps_cons, exOp_eq, nx_eq, cur_eq, stepQ, ev, ofV, putT, erA, inB, opt, ret, onQ, ap, true_and, Nat.reduceEqDiff, Nat.reduceLT, Nat.reduceAdd, if_false, reduceCtorEq]
  refine hK _ ?_
  clear hK K
  refine W.seqK fun K hK => W.regionK tt_ok ?_
  simp only [exOps_nil, exOps_cons, exOp_eq, nx_eq, cur_eq, stepQ, putT, erA, inB, opt, ret, onQ, ap, up, er, true_and, Nat.reduceEqDiff, Nat.reduceLT, Nat.reduceAdd, if_false, reduceCtorEq, tt_51]
  refine hK _ ?_
  clear hK K
  refine W.seqK fun Kz hKz => ?_
  refine W.seqK fun K hK => W.regionK tt_ok ?_
  simp only [exOps_nil, exOps_cons, exOp_eq, nx_eq, cur_eq, stepQ, ev, ofV, putT, erA, inB, opt, ret, onQ, ap, true_and, Nat.reduceEqDiff, Nat.reduceLT, Nat.reduceAdd, if_false, reduceCtorEq]
  refine hK _ ?_
  clear hK K
  refine W.blockK ?_
  refine W.loopK (fun i : Nat => i = 0) (fun i => xI key nonce count b 0) (fun i => 0) 0 (by simp) (by simp [wk, leL, lk, nmT, nmE, nmH, AV.nmIn, AV.nmInL, Ent.nmIn, xI, kB]) ?_
  intro i hi K3 hK3
  simp only [xI]
  refine W.seqK fun K hK => ?_
  refine W.seqK fun K hK => W.regionK tt_ok ?_
  simp only [exOps_nil, exOps_cons, exOp_eq, exCall_eq, nx_eq, cur_eq, evL, stepQ, ev, lk, putT, erA, inB, opt, bnd, req, ret, onQ, ap, binG, binF, intF, bltQ, bltV, lenF, true_and, and_self, or_false, Nat.reduceEqDiff, Nat.reduceLT, Nat.reduceAdd, if_true, if_false, List.getElem?_cons_zero, Option.bind_some, Option.map_some, tt_24]
  refine hK _ ?_
  clear hK K
  refine W.cond (b := decide (((0 : Nat) : Int) < b.length)) (by simp only [ev, lk, Nat.reduceEqDiff, if_true, if_false]) (fun hb' => ?_) (fun hb' => W.exit ?_)
  · exfalso
    have := of_decide_eq_true hb'
    omega
  · simp only [thn_normal, thn_exit, inb_exit, if_true]
    clear hK K
    refine hKz _ ?_
    clear hKz Kz hK3 K3
    refine W.seqK fun K hK => W.regionK tt_ok ?_
    simp only [exOps_nil, exOps_cons, exOp_eq, nx_eq, cur_eq, stepQ, ev, ofV, lk, putT, erA, inB, opt, ret, onQ, ap, true_and, Nat.reduceEqDiff, Nat.reduceLT, Nat.reduceAdd, if_true, if_false]
    refine hK _ ?_
    clear hK K
    refine W.ret ?_
    simp only [finT_ret, finTB, resQ, lk, opt, bnd, req, ret, onQ, AV.isTup, true_and, and_self, Nat.reduceEqDiff, if_true, if_false, ne_eq]
    simp [vw.vwL, vw, AV.nmIn, AV.nmIn, bnd, req, ret, and_self, Nat.reduceAdd, Nat.zero_add, not_false_eq_true]
end Go.Proofs.YtakgcmponelbeaaDoor.Sm
