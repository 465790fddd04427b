/- The reference's block. -/
import Derived.Test.YtakgcmponelbeaaDoorAmQ
-- TT 3 5 9 22 36 38 24 51 60
set_option linter.unusedVariables false
set_option linter.unusedSimpArgs false
namespace Go.Proofs.YtakgcmponelbeaaDoor.Sm
open Sx
set_option maxRecDepth 100000
set_option maxHeartbeats 8000000
def sigR : List Int := [101, 120, 112, 97, 110, 100, 32, 51, 50, 45, 98, 121, 116, 101, 32, 107]
def fK (sk : List Int) : Nat → List Int
  | 0 => []
  | k + 1 => fK sk k ++ [word4R ((sk.drop (4 * k)).take 4)]
theorem fK_len (sk : List Int) : ∀ k, (fK sk k).length = k
  | 0 => rfl
  | k + 1 => by simp [fK, fK_len sk k]
def gN (F1 nonce : List Int) : Nat → List Int
  | 0 => F1
  | k + 1 => gN F1 nonce k ++ [word4R ((nonce.drop (4 * k)).take 4)]
theorem gN_len (F1 nonce : List Int) : ∀ k, (gN F1 nonce k).length = F1.length + k
  | 0 => rfl
  | k + 1 => by simp [gN, gN_len F1 nonce k]; omega
def nI (v : Int) : Nat → Int
  | 0 => v
  | k + 1 => nI v k / 256
theorem nI_ok {v : Int} (hv : 0 ≤ v ∧ v < 4294967296) : ∀ k, 0 ≤ nI v k ∧ nI v k < 4294967296
  | 0 => hv
  | k + 1 => by have := nI_ok hv k; rw [nI]; omega
def oI (out : List Int) (v : Int) (i : Nat) : Nat → List Int
  | 0 => out
  | k + 1 => (oI out v i k).set (4 * i + k) (IntKind.u8.wrap (nI v k % 256))
theorem oI_len (out : List Int) (v : Int) (i : Nat) : ∀ k, (oI out v i k).length = out.length
  | 0 => rfl
  | k + 1 => by simp [oI, oI_len out v i k]
def oR (x f : List Int) : Nat → List Int
  | 0 => List.replicate 64 0
  | i + 1 => oI (oR x f i) (IntKind.u32.wrap (x.getD i 0 + f.getD i 0)) i 4
theorem oR_len (x f : List Int) : ∀ i, (oR x f i).length = 64
  | 0 => by simp [oR]
  | i + 1 => by rw [oR, oI_len, oR_len x f i]
def fI (sk nonce : List Int) (count : Int) : Nat → St
  | 0 => ⟨[(2, .int .u32 count), (4, .ptr 16 0 0 1), (6, .ptr 32 0 0 1), (8, .sl 144 1 0 48), (7, .nils), (9, .int .i64 ((4 * 0 : Nat) : Int))], [(16, .obj 36 (.agg [.ints .u8 12 nonce])), (32, .obj 51 (.agg [.ints .u8 64 (List.replicate 64 0)])), (144, .vec 5 (.ints .u8 sk))], 2000, 120⟩
  | k + 1 => ⟨[(2, .int .u32 count), (4, .ptr 16 0 0 1), (6, .ptr 32 0 0 1), (8, .sl 144 1 0 48), (7, .sl 1000 1 0 (k + 1)), (9, .int .i64 ((4 * (k + 1) : Nat) : Int))], [(16, .obj 36 (.agg [.ints .u8 12 nonce])), (32, .obj 51 (.agg [.ints .u8 64 (List.replicate 64 0)])), (144, .vec 5 (.ints .u8 sk)), (1000, .vec 38 (.ints .u32 (fK sk (k + 1))))], 2000, 120⟩
theorem blockR_fn (key nonce : List Int) (count : Int) (hk : key.length = 32) (hn : nonce.length = 12)
    (hfin : ∀ x F2, rndS F2 10 = x → F2 = gN (fK (sigR ++ key) 12 ++ [count]) nonce 3 → blockS key nonce count = oR x F2 16) :
    FnR Tryd.prog G 23 [.agg [.ints .u8 32 key], .agg [.ints .u8 12 nonce], .int .u32 count] [] (.agg [.ints .u8 64 (blockS key nonce count)]) [] := by
  refine FnR.of_walk (m := 120) (n0 := 0) tt_ok Tryd.func23 rfl rfl (by simp) (by simp [nmH]) ?_
  rw [show Tryd.f23.results.toList = [.cell 6 51] from rfl]
  refine W.seqK fun K hK => W.regionK tt_ok ?_
  simp only [exOps_nil, exOps_cons, exOp_eq, nx_eq, cur_eq, stepQ, ev, lk, parT, putT, erA, inB, opt, req, ret, onQ, ap, up, er, AV.isTup, true_and, and_self, Nat.reduceEqDiff, Nat.reduceLT, Nat.reduceAdd, Nat.zero_add, if_true, if_false, reduceCtorEq, tt_51]
  refine hK _ ?_
  clear hK K
  refine W.seqK fun K hK => W.regionK tt_ok ?_
  simp only [exOps_nil, exOps_cons, exOp_eq, nx_eq, cur_eq, stepQ, ev, ofV, putT, erA, inB, opt, ret, onQ, ap, true_and, Nat.reduceEqDiff, Nat.reduceLT, Nat.reduceAdd, if_false, reduceCtorEq]
  refine hK _ ?_
  clear hK K
  have hb : bytesOf ⟨#[101, 120, 112, 97, 110, 100, 32, 51, 50, 45, 98, 121, 116, 101, 32, 107]⟩ = sigR := rfl
  have hb2 : sigR.length = 16 := rfl
  have hb3 : List.take 0 (List.replicate 0 (0 : Int)) ++ sigR = sigR := rfl
  refine W.seqK fun K hK => W.regionK tt_ok ?_
  simp only [exOps_nil, exOps_cons, exOp_eq, exCall_eq, nx_eq, cur_eq, evL, evP, stepQ, ev, ofV, lk, putT, erA, inB, opt, bnd, req, ret, onQ, ap, up, er, intsOf, bltQ, bltV, appQ, appV, srcQ, rowOf, Row.len, Row.sz, Row.take, Row.app, bldA, bslQ, zeroCs, cellsRow, and_true, true_and, and_self, or_false, Nat.reduceEqDiff, Nat.reduceLT, Nat.reduceLeDiff, Nat.reduceAdd, Nat.reduceMul, Nat.zero_le, Nat.zero_add, if_true, if_false, reduceCtorEq, Option.bind_some, Option.map_some, List.append_nil, tt_5, tt_9, tt_24, Nat.zero_add, hb, hb2, hb3]
  refine ⟨by simp, ?_⟩
  refine hK _ ?_
  clear hK K
  refine W.seqK fun K hK => W.regionK tt_ok ?_
  simp only [exOps_nil, exOps_cons, exOp_eq, exCall_eq, nx_eq, cur_eq, evL, stepQ, ev, lk, putT, erA, inB, opt, bnd, req, ret, onQ, ap, up, er, comps, szL, csize, bltQ, bltV, slF, bd, bds, appQ, appV, srcQ, Row.len, Row.sz, Row.take, Row.drop, Row.app, Ent.row, and_true, true_and, and_self, or_false, Nat.reduceEqDiff, Nat.reduceLT, Nat.reduceLeDiff, Nat.reduceAdd, Nat.reduceSub, Nat.reduceMul, Nat.le_refl, Nat.add_zero, Nat.zero_add, if_true, if_false, reduceCtorEq, Option.bind_some, Option.map_some, tt_5, tt_22, tt_24, hb2]
  obtain ⟨sk, hskd⟩ : ∃ sk, sigR ++ key = sk := ⟨_, rfl⟩
  have hsk : sk.length = 48 := by rw [← hskd, List.length_append, hb2, hk]
  have hk1 : List.take 32 (List.drop 0 key) = key := by rw [List.drop_zero, List.take_of_length_le (by omega)]
  have hk2 : List.take 16 sigR = sigR := rfl
  simp only [hk1, hk2, hk, hskd]
  refine ⟨⟨by omega, by omega, by omega⟩, ?_⟩
  refine hK _ ?_
  clear hK K
  refine W.seqK fun Kz hKz => ?_
  refine W.seqK fun K hK => W.regionK tt_ok ?_
  simp only [exOps_nil, exOps_cons, exOp_eq, nx_eq, cur_eq, stepQ, ev, ofV, putT, erA, inB, opt, ret, onQ, ap, true_and, Nat.reduceEqDiff, Nat.reduceLT, Nat.reduceAdd, if_false, reduceCtorEq]
  refine hK _ ?_
  clear hK K
  refine W.blockK ?_
  refine W.loopS (fun k : Nat => k ≤ 12) (fI sk nonce count) (fun k => 12 - k) 0 (by simp) (by simp [wk, leL, lk, nmT, nmE, nmH, AV.nmIn, AV.nmInL, Ent.nmIn, Row.nmIn, fI]) ?_
  intro k hk' K3 hK3
  match k, hk' with
  | 0, hk' =>
    simp only [fI]
    refine W.seqK fun K hK => ?_
    refine W.seqK fun K hK => W.regionK tt_ok ?_
    simp only [exOps_nil, exOps_cons, exOp_eq, nx_eq, cur_eq, stepQ, ev, ofV, lk, putT, erA, inB, opt, bnd, req, ret, onQ, ap, binG, binF, intF, true_and, and_self, Nat.reduceEqDiff, Nat.reduceLT, Nat.reduceAdd, Nat.reduceMul, if_true, if_false]
    refine hK _ ?_
    clear hK K
    refine W.cond (b := decide (((4 * (0) : Nat) : Int) < 48)) (by simp only [ev, lk, Nat.reduceEqDiff, Nat.reduceMul, if_true, if_false]) (fun hb => W.skip ?_) (fun hb => W.exit ?_)
    · rw [thn_normal]
      have hlt : 4 * (0) < 48 := by have := of_decide_eq_true hb; omega
      have w1 : IntKind.i64.wrap (((4 * (0) : Nat) : Int) + 4) = ((4 * (0) + 4 : Nat) : Int) := by rw [IntKind.wrap_i64]; omega
      have w2 : (4 * (0) + 4) - 4 * (0) = 4 := by omega
      have hfl := fK_len sk (0)
      refine hK _ ?_
      clear hK K
      refine W.seqK fun K hK => W.blockK ?_
      refine W.region tt_ok ?_
      simp only [exOps_cons, exOp_eq, exCall_eq, nx_eq, cur_eq, evL, stepQ, ev, ofV, lk, putT, erA, inB, opt, bnd, req, ret, onQ, ap, binG, binF, intF, slF, bd, bds, and_true, true_and, and_self, Nat.reduceEqDiff, Nat.reduceLT, Nat.reduceLeDiff, Nat.reduceAdd, Nat.reduceMul, Int.toNat_natCast, Nat.zero_le, Nat.add_zero, Nat.zero_add, if_true, if_false, Option.bind_some, Option.map_some, tt_5, tt_24, w1, w2]
      repeat (refine ⟨by omega, ?_⟩)
      refine CallK.pure _ _ (wordR_fn ((sk.drop (4 * (0))).take 4) (by rw [List.length_take, List.length_drop]; omega)) call32 (by simp only [Bool.or_false, lk, opt, bnd, req, ret, onQ, AV.isTup, isTupL, Ent.row, and_true, true_and, and_self, Nat.reduceEqDiff, Nat.reduceMul, Nat.zero_add, if_true, if_false, forall_const, List.append_nil, vw.vwL, vw, viewR, AV.free, Ent.row, Bool.or_self]; all_goals (and_intros <;> first | exact AV.subL_refl _ | omega | rfl | (simp [AV.subL_refl]; done) | (simp; exact AV.subL_refl _) | (simp [AV.subL, AV.sub]; done))) ?_
      simp only [exOps_nil, exOps_cons, exOp_eq, exCall_eq, nx_eq, cur_eq, curV_eq, evL, evP, stepQ, ev, lk, putT, erA, inB, opt, bnd, req, ret, onQ, ap, up, er, AV.isTup, AV.isAgg, intsOf, Kd.agg, comps, szL, csize, takeI, takeC, dropC, stC, stS, bltQ, bltV, appQ, appV, srcQ, Row.len, Row.sz, Row.take, Row.drop, Ent.row, Row.lst, bldA, bslQ, zeroCs, cellsRow, thn_normal, inb_normal, and_true, true_and, and_self, and_false, Nat.reduceEqDiff, Nat.reduceLT, Nat.reduceLeDiff, Nat.reduceAdd, Nat.reduceSub, Nat.reduceMul, Nat.sub_self, Nat.le_refl, Nat.add_zero, Nat.zero_add, if_true, if_false, Bool.false_eq_true, ne_eq, not_false_eq_true, Option.bind_some, Option.map_some, List.append_nil, List.nil_append, List.cons_append, tt_38, tt_60, show List.replicate 1 (0 : Int) = [0] from rfl, List.set_cons_zero, List.length_cons, List.length_nil, List.drop_zero, List.take_succ_cons, List.take_zero, Nat.one_ne_zero, Nat.zero_add]
      refine Or.inl ?_
      refine hK _ ?_
      clear hK K
      refine W.region tt_ok ?_
      simp only [exOps_nil, exOps_cons, exOp_eq, nx_eq, cur_eq, stepQ, ev, ofV, lk, putT, erA, inB, opt, bnd, req, ret, onQ, ap, binG, binF, intF, thn_normal, true_and, and_self, Nat.reduceEqDiff, Nat.reduceLT, Nat.reduceAdd, Nat.reduceMul, Nat.zero_add, if_true, if_false, w1]
      refine hK3 _ 1 2160 1000 (by omega) (by omega) ⟨⟨by simp [Nm, lk], by simp [Nm, lk]⟩, by simp, by simp⟩ ?_
      simp [St.swap, tmMap, enMap, swp, AV.map, AV.mapL, Ent.map, Row.map, wk, leL, lk, nmT, nmE, nmH, AV.nmIn, AV.nmInL, Ent.nmIn, Row.nmIn, fI, fK]
    · exfalso
      have := of_decide_eq_false hb
      omega
  | k + 1, hk' =>
    simp only [fI]
    refine W.seqK fun K hK => ?_
    refine W.seqK fun K hK => W.regionK tt_ok ?_
    simp only [exOps_nil, exOps_cons, exOp_eq, nx_eq, cur_eq, stepQ, ev, ofV, lk, putT, erA, inB, opt, bnd, req, ret, onQ, ap, binG, binF, intF, true_and, and_self, Nat.reduceEqDiff, Nat.reduceLT, Nat.reduceAdd, if_true, if_false]
    refine hK _ ?_
    clear hK K
    refine W.cond (b := decide (((4 * (k + 1) : Nat) : Int) < 48)) (by simp only [ev, lk, Nat.reduceEqDiff, if_true, if_false]) (fun hb => W.skip ?_) (fun hb => W.exit ?_)
    · rw [thn_normal]
      have hlt : 4 * (k + 1) < 48 := by have := of_decide_eq_true hb; omega
      have w1 : IntKind.i64.wrap (((4 * (k + 1) : Nat) : Int) + 4) = ((4 * (k + 1) + 4 : Nat) : Int) := by rw [IntKind.wrap_i64]; omega
      have w2 : (4 * (k + 1) + 4) - 4 * (k + 1) = 4 := by omega
      have hfl := fK_len sk (k + 1)
      refine hK _ ?_
      clear hK K
      refine W.seqK fun K hK => W.blockK ?_
      refine W.region tt_ok ?_
      simp only [exOps_cons, exOp_eq, exCall_eq, nx_eq, cur_eq, evL, stepQ, ev, ofV, lk, putT, erA, inB, opt, bnd, req, ret, onQ, ap, binG, binF, intF, slF, bd, bds, and_true, true_and, and_self, Nat.reduceEqDiff, Nat.reduceLT, Nat.reduceLeDiff, Nat.reduceAdd, Int.toNat_natCast, Nat.zero_add, if_true, if_false, Option.bind_some, Option.map_some, tt_5, tt_24, w1, w2]
      repeat (refine ⟨by omega, ?_⟩)
      refine CallK.pure _ _ (wordR_fn ((sk.drop (4 * (k + 1))).take 4) (by rw [List.length_take, List.length_drop]; omega)) call32 (by simp only [Bool.or_false, lk, opt, bnd, req, ret, onQ, AV.isTup, isTupL, Ent.row, and_true, true_and, and_self, Nat.reduceEqDiff, if_true, if_false, forall_const, List.append_nil, vw.vwL, vw, viewR, AV.free, Ent.row, Bool.or_self]; all_goals (and_intros <;> first | exact AV.subL_refl _ | omega | rfl | (simp [AV.subL_refl]; done) | (simp; exact AV.subL_refl _) | (simp [AV.subL, AV.sub]; done))) ?_
      simp only [exOps_nil, exOps_cons, exOp_eq, exCall_eq, nx_eq, cur_eq, evL, evP, stepQ, ev, lk, putT, erA, inB, opt, bnd, req, ret, onQ, ap, up, er, AV.isTup, AV.isAgg, intsOf, Kd.agg, comps, szL, csize, takeI, takeC, dropC, stC, stS, bltQ, bltV, appQ, appV, srcQ, Row.len, Row.sz, Row.take, Row.drop, Row.app, Ent.row, bldA, bslQ, zeroCs, cellsRow, thn_normal, inb_normal, and_true, true_and, and_self, and_false, or_false, Nat.reduceEqDiff, Nat.reduceLT, Nat.reduceLeDiff, Nat.reduceAdd, Nat.reduceSub, Nat.reduceMul, Nat.sub_self, Nat.le_refl, Nat.add_zero, Nat.zero_add, if_true, if_false, Bool.false_eq_true, Option.bind_some, Option.map_some, List.append_nil, List.nil_append, List.cons_append, tt_38, tt_60, show List.replicate 1 (0 : Int) = [0] from rfl, List.set_cons_zero, List.length_cons, List.length_nil, List.drop_zero, List.take_succ_cons, List.take_zero, Nat.one_ne_zero, Nat.zero_add, hfl]
      repeat (refine ⟨by omega, ?_⟩)
      refine hK _ ?_
      clear hK K
      refine W.region tt_ok ?_
      simp only [exOps_nil, exOps_cons, exOp_eq, nx_eq, cur_eq, stepQ, ev, ofV, lk, putT, erA, inB, opt, bnd, req, ret, onQ, ap, binG, binF, intF, thn_normal, true_and, and_self, Nat.reduceEqDiff, Nat.reduceLT, Nat.reduceAdd, if_true, if_false, w1]
      refine hK3 _ (k + 2) 2160 1000 (by omega) (by omega) ⟨⟨by simp [Nm, lk], by simp [Nm, lk]⟩, by simp, by simp⟩ ?_
      have ht : List.take (k + 1) (fK sk (k + 1)) = fK sk (k + 1) := List.take_of_length_le (by omega)
      rw [ht]
      have hC : fK sk (k + 1 + 1) = fK sk (k + 1) ++ [word4R ((sk.drop (4 * (k + 1))).take 4)] := rfl
      simp only [fI, hC]
      simp [St.swap, tmMap, enMap, swp, AV.map, AV.mapL, Ent.map, Row.map, wk, leL, lk, nmT, nmE, nmH, AV.nmIn, AV.nmInL, Ent.nmIn, Row.nmIn]
      omega
    · simp only [thn_normal, thn_exit, inb_exit, if_true]
      clear hK K
      have hk11 : k = 11 := by have := of_decide_eq_false hb; omega
      subst hk11
      refine hKz _ ?_
      clear hKz Kz
      have hfl := fK_len sk 12
      obtain ⟨F0, hF0⟩ : ∃ F0, fK sk 12 = F0 := ⟨_, rfl⟩
      simp only [Nat.reduceAdd, hF0] at hfl ⊢
      refine W.seqK fun K hK => W.regionK tt_ok ?_
      simp only [exOps_nil, exOps_cons, exOp_eq, exCall_eq, nx_eq, cur_eq, evL, evP, stepQ, ev, lk, putT, erA, inB, opt, bnd, req, ret, onQ, ap, up, er, AV.isTup, AV.isAgg, intsOf, Kd.agg, comps, szL, csize, takeI, takeC, dropC, stC, stS, bltQ, bltV, appQ, appV, srcQ, Row.len, Row.sz, Row.take, Row.drop, Row.app, Ent.row, bldA, bslQ, zeroCs, cellsRow, and_true, true_and, and_self, and_false, or_false, Nat.reduceEqDiff, Nat.reduceLT, Nat.reduceLeDiff, Nat.reduceAdd, Nat.reduceSub, Nat.reduceMul, Nat.sub_self, Nat.le_refl, Nat.add_zero, Nat.zero_add, if_true, if_false, Bool.false_eq_true, Option.bind_some, Option.map_some, List.append_nil, List.nil_append, List.cons_append, tt_38, tt_60, hfl, show List.replicate 1 (0 : Int) = [0] from rfl, List.set_cons_zero, List.length_cons, List.length_nil, List.drop_zero, List.take_succ_cons, List.take_zero, Nat.one_ne_zero, Nat.zero_add]
      have ht0 : List.take 12 F0 = F0 := List.take_of_length_le (by omega)
      simp only [ht0]
      repeat (refine ⟨by omega, ?_⟩)
      refine hK _ ?_
      clear hK K
      refine W.swap 2080 1000 ⟨⟨by simp [Nm, lk], by simp [Nm, lk]⟩, by simp, by simp⟩ ?_
      refine W.weak ⟨[(2, .int .u32 count), (4, .ptr 16 0 0 1), (6, .ptr 32 0 0 1), (7, .sl 1000 1 0 13)], [(16, .obj 36 (.agg [.ints .u8 12 nonce])), (32, .obj 51 (.agg [.ints .u8 64 (List.replicate 64 0)])), (1000, .vec 38 (.ints .u32 (F0 ++ [count])))], 3000, 120⟩ (by simp [St.swap, tmMap, enMap, swp, AV.map, AV.mapL, Ent.map, Row.map, wk, leL, lk, nmT, nmE, nmH, AV.nmIn, AV.nmInL, Ent.nmIn, Row.nmIn]) ?_
      obtain ⟨F1, hF1⟩ : ∃ F1, F0 ++ [count] = F1 := ⟨_, rfl⟩
      have hf1 : F1.length = 13 := by rw [← hF1]; simp [hfl]
      rw [hF1]
      refine W.seqK fun Kz hKz => ?_
      refine W.seqK fun K hK => W.regionK tt_ok ?_
      simp only [exOps_nil, exOps_cons, exOp_eq, nx_eq, cur_eq, stepQ, ev, ofV, putT, erA, inB, opt, ret, onQ, ap, true_and, Nat.reduceEqDiff, Nat.reduceLT, Nat.reduceAdd, if_false]
      refine hK _ ?_
      clear hK K
      refine W.blockK ?_
      refine W.loopS (fun k : Nat => k ≤ 3) (fun k => ⟨[(2, .int .u32 count), (4, .ptr 16 0 0 1), (6, .ptr 32 0 0 1), (7, .sl 1000 1 0 (13 + k)), (10, .int .i64 ((4 * k : Nat) : Int))], [(16, .obj 36 (.agg [.ints .u8 12 nonce])), (32, .obj 51 (.agg [.ints .u8 64 (List.replicate 64 0)])), (1000, .vec 38 (.ints .u32 (gN F1 nonce k)))], 3100, 120⟩) (fun k => 3 - k) 0 (by simp) (by simp [wk, leL, lk, nmT, nmE, nmH, AV.nmIn, AV.nmInL, Ent.nmIn, Row.nmIn, gN]) ?_
      intro k hk'' K3 hK3
      refine W.seqK fun K hK => ?_
      refine W.seqK fun K hK => W.regionK tt_ok ?_
      simp only [exOps_nil, exOps_cons, exOp_eq, nx_eq, cur_eq, stepQ, ev, ofV, lk, putT, erA, inB, opt, bnd, req, ret, onQ, ap, binG, binF, intF, true_and, and_self, Nat.reduceEqDiff, Nat.reduceLT, Nat.reduceAdd, if_true, if_false]
      refine hK _ ?_
      clear hK K
      refine W.cond (b := decide (((4 * k : Nat) : Int) < 12)) (by simp only [ev, lk, Nat.reduceEqDiff, if_true, if_false]) (fun hb => W.skip ?_) (fun hb => W.exit ?_)
      · rw [thn_normal]
        have hlt : 4 * k < 12 := by have := of_decide_eq_true hb; omega
        have w1 : IntKind.i64.wrap (((4 * k : Nat) : Int) + 4) = ((4 * k + 4 : Nat) : Int) := by rw [IntKind.wrap_i64]; omega
        have w2 : (4 * k + 4) - 4 * k = 4 := by omega
        have hgl : (gN F1 nonce k).length = 13 + k := by rw [gN_len, hf1]
        refine hK _ ?_
        clear hK K
        refine W.seqK fun K hK => W.blockK ?_
        refine W.region tt_ok ?_
        simp only [exOps_cons, exOp_eq, exCall_eq, nx_eq, cur_eq, evL, stepQ, ev, ofV, lk, putT, erA, inB, opt, bnd, req, ret, onQ, ap, binG, binF, intF, comps, szL, csize, slF, bd, bds, and_true, true_and, and_self, Nat.reduceEqDiff, Nat.reduceLT, Nat.reduceLeDiff, Nat.reduceAdd, Nat.reduceMul, Int.toNat_natCast, Nat.add_zero, if_true, if_false, Option.bind_some, Option.map_some, tt_5, tt_36, w1, w2]
        repeat (refine ⟨by omega, ?_⟩)
        refine CallK.pure _ _ (wordR_fn ((nonce.drop (4 * k)).take 4) (by rw [List.length_take, List.length_drop]; omega)) call32 (by simp only [Bool.or_false, lk, opt, bnd, req, ret, onQ, AV.isTup, isTupL, Ent.row, and_true, true_and, and_self, Nat.reduceEqDiff, if_true, if_false, forall_const, List.append_nil, vw.vwL, vw, viewR, AV.free, Ent.row, Bool.or_self]; all_goals (and_intros <;> first | exact AV.subL_refl _ | omega | rfl | (simp [AV.subL_refl]; done) | (simp; exact AV.subL_refl _) | (simp [AV.subL, AV.sub]; done))) ?_
        simp only [exOps_nil, exOps_cons, exOp_eq, exCall_eq, nx_eq, cur_eq, evL, evP, stepQ, ev, lk, putT, erA, inB, opt, bnd, req, ret, onQ, ap, up, er, AV.isTup, AV.isAgg, intsOf, Kd.agg, comps, szL, csize, takeI, takeC, dropC, stC, stS, bltQ, bltV, appQ, appV, srcQ, Row.len, Row.sz, Row.take, Row.drop, Row.app, Ent.row, bldA, bslQ, zeroCs, cellsRow, thn_normal, inb_normal, and_true, true_and, and_self, and_false, or_false, Nat.reduceEqDiff, Nat.reduceLT, Nat.reduceLeDiff, Nat.reduceAdd, Nat.reduceSub, Nat.reduceMul, Nat.sub_self, Nat.le_refl, Nat.add_zero, Nat.zero_add, if_true, if_false, Bool.false_eq_true, Option.bind_some, Option.map_some, List.append_nil, List.nil_append, List.cons_append, tt_38, tt_60, show List.replicate 1 (0 : Int) = [0] from rfl, List.set_cons_zero, List.length_cons, List.length_nil, List.drop_zero, List.take_succ_cons, List.take_zero, Nat.one_ne_zero, Nat.zero_add, hgl]
        repeat (refine ⟨by omega, ?_⟩)
        refine hK _ ?_
        clear hK K
        refine W.region tt_ok ?_
        simp only [exOps_nil, exOps_cons, exOp_eq, nx_eq, cur_eq, stepQ, ev, ofV, lk, putT, erA, inB, opt, bnd, req, ret, onQ, ap, binG, binF, intF, thn_normal, true_and, and_self, Nat.reduceEqDiff, Nat.reduceLT, Nat.reduceAdd, if_true, if_false, w1]
        have ht : List.take (13 + k) (gN F1 nonce k) = gN F1 nonce k := List.take_of_length_le (by omega)
        simp only [ht]
        refine hK3 _ (k + 1) 3244 1000 (by omega) (by omega) ⟨⟨by simp [Nm, lk], by simp [Nm, lk]⟩, by simp, by simp⟩ ?_
        simp [St.swap, tmMap, enMap, swp, AV.map, AV.mapL, Ent.map, Row.map, wk, leL, lk, nmT, nmE, nmH, AV.nmIn, AV.nmInL, Ent.nmIn, Row.nmIn, gN]
        omega
      · simp only [thn_normal, thn_exit, inb_exit, if_true]
        clear hK K
        have hk3 : k = 3 := by have := of_decide_eq_false hb; omega
        subst hk3
        refine hKz _ ?_
        clear hKz Kz
        obtain ⟨F2, hF2⟩ : ∃ F2, gN F1 nonce 3 = F2 := ⟨_, rfl⟩
        have hf2 : F2.length = 16 := by rw [← hF2, gN_len, hf1]
        simp only [Nat.reduceAdd, hF2]
        have hf2n : ¬ F2.length = 0 := by omega
        have hf2t : List.take 16 (List.drop 0 F2) = F2 := by rw [List.drop_zero, List.take_of_length_le (by omega)]
        refine W.seqK fun K hK => W.regionK tt_ok ?_
        simp only [exOps_nil, exOps_cons, exOp_eq, exCall_eq, nx_eq, cur_eq, evL, evP, stepQ, ev, lk, putT, erA, inB, opt, bnd, req, ret, onQ, ap, up, er, intsOf, bltQ, bltV, appQ, appV, srcQ, Row.len, Row.sz, Row.take, Row.drop, Row.app, Ent.row, bldA, bslQ, zeroCs, cellsRow, and_true, true_and, and_self, or_false, Nat.reduceEqDiff, Nat.reduceLT, Nat.reduceLeDiff, Nat.reduceAdd, Nat.reduceMul, Nat.le_refl, Nat.zero_le, Nat.zero_add, if_true, if_false, Option.bind_some, Option.map_some, List.append_nil, tt_38, tt_60, hf2, hf2t, Nat.zero_add]
        rw [List.take_zero, List.nil_append]
        refine ⟨by simp, ?_⟩
        refine hK _ ?_
        clear hK K
        refine W.weak ⟨[(6, .ptr 32 0 0 1), (7, .sl 1000 1 0 16), (11, .sl 3164 1 0 16)], [(32, .obj 51 (.agg [.ints .u8 64 (List.replicate 64 0)])), (1000, .vec 38 (.ints .u32 F2)), (3164, .vec 38 (.ints .u32 (F2)))], 3200, 120⟩ (by simp [wk, leL, lk, nmT, nmE, nmH, AV.nmIn, AV.nmInL, Ent.nmIn, Row.nmIn]) ?_
        refine W.seqK fun Kz hKz => ?_
        refine W.seqK fun K hK => W.regionK tt_ok ?_
        simp only [exOps_nil, exOps_cons, exOp_eq, nx_eq, cur_eq, stepQ, ev, ofV, putT, erA, inB, opt, ret, onQ, ap, true_and, Nat.reduceEqDiff, Nat.reduceLT, Nat.reduceAdd, if_false]
        refine hK _ ?_
        clear hK K
        refine W.blockK ?_
        refine W.loopK (fun r : Nat => r ≤ 10) (fun r => ⟨[(6, .ptr 32 0 0 1), (7, .sl 1000 1 0 16), (11, .sl 3164 1 0 16), (12, .int .i64 r)], [(32, .obj 51 (.agg [.ints .u8 64 (List.replicate 64 0)])), (1000, .vec 38 (.ints .u32 F2)), (3164, .vec 38 (.ints .u32 (rndS F2 r)))], 3300, 120⟩) (fun r => 10 - r) 0 (by simp) (by simp [wk, leL, lk, nmT, nmE, nmH, AV.nmIn, AV.nmInL, Ent.nmIn, Row.nmIn, rndS]) ?_
        intro r hr K3 hK3
        refine W.seqK fun K hK => ?_
        refine W.seqK fun K hK => W.regionK tt_ok ?_
        simp only [exOps_nil, exOps_cons, exOp_eq, nx_eq, cur_eq, stepQ, ev, ofV, lk, putT, erA, inB, opt, bnd, req, ret, onQ, ap, binG, binF, intF, true_and, and_self, Nat.reduceEqDiff, Nat.reduceLT, Nat.reduceAdd, if_true, if_false]
        refine hK _ ?_
        clear hK K
        refine W.cond (b := decide ((r : Int) < 10)) (by simp only [ev, lk, Nat.reduceEqDiff, if_true, if_false]) (fun hb => W.skip ?_) (fun hb => W.exit ?_)
        · rw [thn_normal]
          have hlt : r < 10 := by have := of_decide_eq_true hb; omega
          have hxl : (rndS F2 r).length = 16 := by rw [rndS_len, hf2]
          obtain ⟨x, hx⟩ : ∃ x, rndS F2 r = x := ⟨_, rfl⟩
          rw [hx] at hxl ⊢
          refine hK _ ?_
          clear hK K
          refine W.seqK fun Kr hKr => W.blockK ?_
          refine W.seqK fun Ka hKa => ?_
          refine W.seqK fun K hK => W.regionK tt_ok ?_
          simp only [exOps_nil, exOps_cons, exOp_eq, nx_eq, cur_eq, stepQ, ev, ofV, putT, erA, inB, opt, ret, onQ, ap, true_and, Nat.reduceEqDiff, Nat.reduceLT, Nat.reduceAdd, if_false]
          refine hK _ ?_
          clear hK K
          refine W.blockK ?_
          refine W.loopS (fun i : Nat => i ≤ 4) (fun i => ⟨[(6, .ptr 32 0 0 1), (7, .sl 1000 1 0 16), (11, .sl 3164 1 0 16), (12, .int .i64 r), (13, .int .i64 i)], [(32, .obj 51 (.agg [.ints .u8 64 (List.replicate 64 0)])), (1000, .vec 38 (.ints .u32 F2)), (3164, .vec 38 (.ints .u32 (colR x i)))], 3400, 120⟩) (fun i => 4 - i) 0 (by simp) (by simp [wk, leL, lk, nmT, nmE, nmH, AV.nmIn, AV.nmInL, Ent.nmIn, Row.nmIn, colR]) ?_
          intro i hi K4 hK4
          refine W.seqK fun K hK => ?_
          refine W.seqK fun K hK => W.regionK tt_ok ?_
          simp only [exOps_nil, exOps_cons, exOp_eq, nx_eq, cur_eq, stepQ, ev, ofV, lk, putT, erA, inB, opt, bnd, req, ret, onQ, ap, binG, binF, intF, true_and, and_self, Nat.reduceEqDiff, Nat.reduceLT, Nat.reduceAdd, if_true, if_false]
          refine hK _ ?_
          clear hK K
          refine W.cond (b := decide ((i : Int) < 4)) (by simp only [ev, lk, Nat.reduceEqDiff, if_true, if_false]) (fun hb' => W.skip ?_) (fun hb' => W.exit ?_)
          · rw [thn_normal]
            have hlt' : i < 4 := by have := of_decide_eq_true hb'; omega
            have hcl : (colR x i).length = 16 := by rw [colR_len, hxl]
            have w1 : IntKind.i64.wrap ((i : Int) + 4) = ((i + 4 : Nat) : Int) := by rw [IntKind.wrap_i64]; omega
            have w2 : IntKind.i64.wrap ((i : Int) + 8) = ((i + 8 : Nat) : Int) := by rw [IntKind.wrap_i64]; omega
            have w3 : IntKind.i64.wrap ((i : Int) + 12) = ((i + 12 : Nat) : Int) := by rw [IntKind.wrap_i64]; omega
            have hct : ((colR x i).drop 0).take 16 = colR x i := by rw [List.drop_zero, List.take_of_length_le (by omega)]
            have hcall := quarterR_at 3560 (((colR x i).drop 0).take 16) i (i + 4) (i + 8) (i + 12) (by rw [hct]; exact hcl) (by omega) (by omega) (by omega) (by omega)
            rw [qrt_eq (by rw [hct]; exact hcl) (by omega) (by omega) (by omega) (by omega) (by omega) (by omega) (by omega) (by omega) (by omega) (by omega)] at hcall
            refine hK _ ?_
            clear hK K
            refine W.seqK fun K hK => W.blockK ?_
            refine W.region tt_ok ?_
            simp only [exOps_cons, exOp_eq, exCall_eq, nx_eq, cur_eq, evL, stepQ, ev, ofV, lk, putT, erA, inB, opt, bnd, req, ret, onQ, ap, binG, binF, intF, true_and, and_self, Nat.reduceEqDiff, Nat.reduceLT, Nat.reduceAdd, if_true, if_false, Option.bind_some, Option.map_some, w1, w2, w3]
            refine CallK.with [] [(3560, .vec 38 (.ints .u32 (qrt (((colR x i).drop 0).take 16) i (i + 4) (i + 8) (i + 12))))] _ _ hcall call33 (by simp only [Bool.or_false, AV.nmIn, lk, opt, bnd, req, ret, onQ, AV.isTup, isTupL, Ent.row, and_true, true_and, and_self, Nat.reduceEqDiff, Nat.zero_add, if_true, if_false, forall_const, List.append_nil, vw.vwL, vw, viewR, AV.free, Ent.row, Bool.or_self]; all_goals (and_intros <;> first | exact AV.subL_refl _ | omega | rfl | (simp [AV.subL_refl]; done) | (simp [AV.subL, AV.sub, entsFree]; done))) (by simp [leL]) (by intro n hn; first | (left; revert hn; simp [Nm, lk]; done) | (right; revert hn; simp only [Nm, lk]; split <;> simp <;> omega)) (by simp [entsIn]) ?_
            simp only [callDel, exOps_nil, exOps_cons, exOp_eq, nx_eq, cur_eq, stepQ, ev, lk, putT, erA, inB, opt, ret, onQ, ap, up, er, thn_normal, inb_normal, true_and, Nat.reduceEqDiff, Nat.reduceLT, Nat.reduceAdd, if_true, if_false, List.nil_append, List.map_cons, List.map_nil, List.reverse_cons, List.reverse_nil]
            refine hK _ ?_
            clear hK K
            refine W.region tt_ok ?_
            simp only [exOps_nil, exOps_cons, exOp_eq, nx_eq, cur_eq, stepQ, ev, ofV, lk, putT, erA, inB, opt, bnd, req, ret, onQ, ap, binG, binF, intF, thn_normal, true_and, and_self, Nat.reduceEqDiff, Nat.reduceLT, Nat.reduceAdd, if_true, if_false, wrap_up i (by omega)]
            refine hK4 _ (i + 1) 3560 3164 (by omega) (by omega) ⟨⟨by simp [Nm, lk], by simp [Nm, lk]⟩, by simp, by simp⟩ ?_
            rw [hct]
            simp [St.swap, tmMap, enMap, swp, AV.map, AV.mapL, Ent.map, Row.map, wk, leL, lk, nmT, nmE, nmH, AV.nmIn, AV.nmInL, Ent.nmIn, Row.nmIn, colR]
          · simp only [thn_normal, thn_exit, inb_exit, Nat.reduceEqDiff, if_true, if_false]
            clear hK K
            have hi4 : i = 4 := by have := of_decide_eq_false hb'; omega
            subst hi4
            refine hKa _ ?_
            clear hKa Ka
            obtain ⟨y, hy⟩ : ∃ y, colR x 4 = y := ⟨_, rfl⟩
            have hyl : y.length = 16 := by rw [← hy, colR_len, hxl]
            rw [hy]
            refine W.seqK fun K hK => W.regionK tt_ok ?_
            simp only [exOps_nil, exOps_cons, exOp_eq, nx_eq, cur_eq, stepQ, ev, ofV, putT, erA, inB, opt, ret, onQ, ap, true_and, Nat.reduceEqDiff, Nat.reduceLT, Nat.reduceAdd, if_false]
            refine hK _ ?_
            clear hK K
            refine W.blockK ?_
            refine W.loopS (fun i : Nat => i ≤ 4) (fun i => ⟨[(6, .ptr 32 0 0 1), (7, .sl 1000 1 0 16), (11, .sl 3164 1 0 16), (12, .int .i64 r), (14, .int .i64 i)], [(32, .obj 51 (.agg [.ints .u8 64 (List.replicate 64 0)])), (1000, .vec 38 (.ints .u32 F2)), (3164, .vec 38 (.ints .u32 (diaR y i)))], 3500, 120⟩) (fun i => 4 - i) 0 (by simp) (by simp [wk, leL, lk, nmT, nmE, nmH, AV.nmIn, AV.nmInL, Ent.nmIn, Row.nmIn, diaR]) ?_
            intro i hi K4 hK4
            refine W.seqK fun K hK => ?_
            refine W.seqK fun K hK => W.regionK tt_ok ?_
            simp only [exOps_nil, exOps_cons, exOp_eq, nx_eq, cur_eq, stepQ, ev, ofV, lk, putT, erA, inB, opt, bnd, req, ret, onQ, ap, binG, binF, intF, true_and, and_self, Nat.reduceEqDiff, Nat.reduceLT, Nat.reduceAdd, if_true, if_false]
            refine hK _ ?_
            clear hK K
            refine W.cond (b := decide ((i : Int) < 4)) (by simp only [ev, lk, Nat.reduceEqDiff, if_true, if_false]) (fun hb' => W.skip ?_) (fun hb' => W.exit ?_)
            · rw [thn_normal]
              have hlt' : i < 4 := by have := of_decide_eq_true hb'; omega
              have hcl : (diaR y i).length = 16 := by rw [diaR_len, hyl]
              have md : ∀ n : Nat, Int.tmod (n : Int) 4 = ((n % 4 : Nat) : Int) := fun n => by rw [Int.tmod_eq_emod_of_nonneg (by omega)]; omega
              have u1 : IntKind.i64.wrap ((i : Int) + 1) = ((i + 1 : Nat) : Int) := by rw [IntKind.wrap_i64]; omega
              have u2 : IntKind.i64.wrap ((i : Int) + 2) = ((i + 2 : Nat) : Int) := by rw [IntKind.wrap_i64]; omega
              have u3 : IntKind.i64.wrap ((i : Int) + 3) = ((i + 3 : Nat) : Int) := by rw [IntKind.wrap_i64]; omega
              have v1 : IntKind.i64.wrap ((((i + 1) % 4 : Nat) : Int) + 4) = ((4 + (i + 1) % 4 : Nat) : Int) := by rw [IntKind.wrap_i64]; omega
              have v2 : IntKind.i64.wrap ((((i + 2) % 4 : Nat) : Int) + 8) = ((8 + (i + 2) % 4 : Nat) : Int) := by rw [IntKind.wrap_i64]; omega
              have v3 : IntKind.i64.wrap ((((i + 3) % 4 : Nat) : Int) + 12) = ((12 + (i + 3) % 4 : Nat) : Int) := by rw [IntKind.wrap_i64]; omega
              have hct : ((diaR y i).drop 0).take 16 = diaR y i := by rw [List.drop_zero, List.take_of_length_le (by omega)]
              have hcall := quarterR_at 3756 (((diaR y i).drop 0).take 16) i (4 + (i + 1) % 4) (8 + (i + 2) % 4) (12 + (i + 3) % 4) (by rw [hct]; exact hcl) (by omega) (by omega) (by omega) (by omega)
              rw [qrt_eq (by rw [hct]; exact hcl) (by omega) (by omega) (by omega) (by omega) (by omega) (by omega) (by omega) (by omega) (by omega) (by omega)] at hcall
              refine hK _ ?_
              clear hK K
              refine W.seqK fun K hK => W.blockK ?_
              refine W.region tt_ok ?_
              simp only [exOps_cons, exOp_eq, exCall_eq, nx_eq, cur_eq, evL, stepQ, ev, ofV, lk, putT, erA, inB, opt, bnd, req, ret, onQ, ap, binG, binF, intF, and_true, true_and, and_self, Nat.reduceEqDiff, Nat.reduceLT, Nat.reduceAdd, if_true, if_false, ne_eq, Option.bind_some, Option.map_some, u1, u2, u3, md, v1, v2, v3]
              repeat (refine ⟨by omega, ?_⟩)
              refine CallK.with [] [(3756, .vec 38 (.ints .u32 (qrt (((diaR y i).drop 0).take 16) i (4 + (i + 1) % 4) (8 + (i + 2) % 4) (12 + (i + 3) % 4))))] _ _ hcall call33 (by simp only [Bool.or_false, AV.nmIn, lk, opt, bnd, req, ret, onQ, AV.isTup, isTupL, Ent.row, and_true, true_and, and_self, Nat.reduceEqDiff, Nat.zero_add, if_true, if_false, forall_const, List.append_nil, vw.vwL, vw, viewR, AV.free, Ent.row, Bool.or_self]; all_goals (and_intros <;> first | exact AV.subL_refl _ | omega | rfl | (simp [AV.subL_refl]; done) | (simp [AV.subL, AV.sub, entsFree]; done))) (by simp [leL]) (by intro n hn; first | (left; revert hn; simp [Nm, lk]; done) | (right; revert hn; simp only [Nm, lk]; split <;> simp <;> omega)) (by simp [entsIn]) ?_
              simp only [callDel, exOps_nil, exOps_cons, exOp_eq, nx_eq, cur_eq, stepQ, ev, lk, putT, erA, inB, opt, ret, onQ, ap, up, er, thn_normal, inb_normal, true_and, Nat.reduceEqDiff, Nat.reduceLT, Nat.reduceAdd, if_true, if_false, List.nil_append, List.map_cons, List.map_nil, List.reverse_cons, List.reverse_nil]
              refine hK _ ?_
              clear hK K
              refine W.region tt_ok ?_
              simp only [exOps_nil, exOps_cons, exOp_eq, nx_eq, cur_eq, stepQ, ev, ofV, lk, putT, erA, inB, opt, bnd, req, ret, onQ, ap, binG, binF, intF, thn_normal, true_and, and_self, Nat.reduceEqDiff, Nat.reduceLT, Nat.reduceAdd, if_true, if_false, wrap_up i (by omega)]
              refine hK4 _ (i + 1) 3756 3164 (by omega) (by omega) ⟨⟨by simp [Nm, lk], by simp [Nm, lk]⟩, by simp, by simp⟩ ?_
              rw [hct]
              simp [St.swap, tmMap, enMap, swp, AV.map, AV.mapL, Ent.map, Row.map, wk, leL, lk, nmT, nmE, nmH, AV.nmIn, AV.nmInL, Ent.nmIn, Row.nmIn, diaR]
            · simp only [thn_normal, thn_exit, inb_normal, inb_exit, Nat.reduceEqDiff, if_true, if_false]
              clear hK K
              have hi4 : i = 4 := by have := of_decide_eq_false hb'; omega
              subst hi4
              refine hKr _ ?_
              clear hKr Kr
              refine W.region tt_ok ?_
              simp only [exOps_nil, exOps_cons, exOp_eq, nx_eq, cur_eq, stepQ, ev, ofV, lk, putT, erA, inB, opt, bnd, req, ret, onQ, ap, binG, binF, intF, thn_normal, true_and, and_self, Nat.reduceEqDiff, Nat.reduceLT, Nat.reduceAdd, if_true, if_false, wrap_up r (by omega)]
              refine hK3 _ (r + 1) (by omega) (by omega) ?_
              have hz : rndS F2 (r + 1) = diaR y 4 := by rw [rndS, hx, hy]
              rw [hz]
              simp [wk, leL, lk, nmT, nmE, nmH, AV.nmIn, AV.nmInL, Ent.nmIn, Row.nmIn]
        · simp only [thn_normal, thn_exit, inb_exit, if_true]
          clear hK K
          have hr10 : r = 10 := by have := of_decide_eq_false hb; omega
          subst hr10
          refine hKz _ ?_
          clear hKz Kz
          obtain ⟨x, hx⟩ : ∃ x, rndS F2 10 = x := ⟨_, rfl⟩
          have hxl : x.length = 16 := by rw [← hx, rndS_len, hf2]
          rw [hx]
          refine W.seqK fun K hK => W.regionK tt_ok ?_
          simp only [exOps_nil, exOps_cons, exOp_eq, nx_eq, cur_eq, stepQ, putT, erA, inB, opt, ret, onQ, ap, up, er, true_and, Nat.reduceEqDiff, Nat.reduceLT, Nat.reduceAdd, if_false, tt_51]
          refine hK _ ?_
          clear hK K
          refine W.weak ⟨[(6, .ptr 32 0 0 1), (7, .sl 1000 1 0 16), (11, .sl 3164 1 0 16), (15, .ptr 3332 0 0 1)], (3332, .obj 51 (.agg [.ints .u8 64 (List.replicate 64 0)])) :: [(32, .obj 51 (.agg [.ints .u8 64 (List.replicate 64 0)])), (1000, .vec 38 (.ints .u32 F2)), (3164, .vec 38 (.ints .u32 (x)))], 3600, 120⟩ (by simp [wk, leL, lk, nmT, nmE, nmH, AV.nmIn, AV.nmInL, Ent.nmIn, Row.nmIn]) ?_
          refine W.seqK fun Kz hKz => ?_
          refine W.seqK fun K hK => W.regionK tt_ok ?_
          simp only [exOps_nil, exOps_cons, exOp_eq, nx_eq, cur_eq, stepQ, ev, ofV, putT, erA, inB, opt, ret, onQ, ap, true_and, Nat.reduceEqDiff, Nat.reduceLT, Nat.reduceAdd, if_false]
          refine hK _ ?_
          clear hK K
          refine W.blockK ?_
          refine W.loopK (fun i : Nat => i ≤ 16) (fun i => ⟨[(6, .ptr 32 0 0 1), (7, .sl 1000 1 0 16), (11, .sl 3164 1 0 16), (15, .ptr 3332 0 0 1), (16, .int .i64 i)], (3332, .obj 51 (.agg [.ints .u8 64 (oR x F2 i)])) :: [(32, .obj 51 (.agg [.ints .u8 64 (List.replicate 64 0)])), (1000, .vec 38 (.ints .u32 F2)), (3164, .vec 38 (.ints .u32 (x)))], 3700, 120⟩) (fun i => 16 - i) 0 (by simp) (by simp [wk, leL, lk, nmT, nmE, nmH, AV.nmIn, AV.nmInL, Ent.nmIn, Row.nmIn, oR]) ?_
          intro i hi K3 hK3
          refine W.seqK fun K hK => ?_
          refine W.seqK fun K hK => W.regionK tt_ok ?_
          simp only [exOps_nil, exOps_cons, exOp_eq, nx_eq, cur_eq, stepQ, ev, ofV, lk, putT, erA, inB, opt, bnd, req, ret, onQ, ap, binG, binF, intF, true_and, and_self, Nat.reduceEqDiff, Nat.reduceLT, Nat.reduceAdd, if_true, if_false]
          refine hK _ ?_
          clear hK K
          refine W.cond (b := decide ((i : Int) < 16)) (by simp only [ev, lk, Nat.reduceEqDiff, if_true, if_false]) (fun hb => W.skip ?_) (fun hb => W.exit ?_)
          · rw [thn_normal]
            have hlt : i < 16 := by have := of_decide_eq_true hb; omega
            obtain ⟨v, hv⟩ : ∃ v, IntKind.u32.wrap (x.getD i 0 + F2.getD i 0) = v := ⟨_, rfl⟩
            have hv0 : 0 ≤ v ∧ v < 4294967296 := by rw [← hv]; exact wrap32 _
            refine hK _ ?_
            clear hK K
            refine W.seqK fun Kr hKr => W.blockK ?_
            refine W.seqK fun K hK => W.drawK [⟨0, false, []⟩, ⟨0, false, []⟩, ⟨0, false, [0, 1]⟩, ⟨0, false, [0, 1, 2]⟩, ⟨0, false, []⟩, ⟨0, false, []⟩, ⟨0, false, [4, 5]⟩, ⟨0, false, [4, 5, 6]⟩, ⟨0, false, [0, 1, 2, 3, 4, 5, 6, 7]⟩, ⟨0, false, [0, 1, 2, 3, 4, 5, 6, 7, 8]⟩] mix tt_ok (by kernel_rfl) ?_
            simp only [exOp_eq, exD_nil, exD_cons, nxD_eq, cur_eq, flI, ownB, stepQ, ev, lk, putT, erA, inB, opt, bnd, req, ret, onQ, ap, binG, binF, intF, Kd.elem, ixA, asI, ldP, ldE, Kd.agg, and_true, true_and, and_self, Nat.reduceEqDiff, Nat.reduceLT, Nat.reduceLeDiff, Nat.reduceAdd, Int.toNat_natCast, Nat.zero_add, if_true, if_false, Bool.false_eq_true, tt_38, tt_60, hv, hxl, hf2]
            repeat (refine ⟨by omega, ?_⟩)
            refine hK _ ?_
            clear hK K
            refine W.seqK fun K hK => W.regionK tt_ok ?_
            simp only [exOps_nil, exOps_cons, exOp_eq, nx_eq, cur_eq, stepQ, ev, ofV, putT, erA, inB, opt, ret, onQ, ap, true_and, Nat.reduceEqDiff, Nat.reduceLT, Nat.reduceAdd, if_false]
            refine hK _ ?_
            clear hK K
            refine W.blockK ?_
            refine W.loopK (fun k : Nat => k ≤ 4) (fun k => ⟨[(6, .ptr 32 0 0 1), (7, .sl 1000 1 0 16), (11, .sl 3164 1 0 16), (15, .ptr 3332 0 0 1), (16, .int .i64 i), (17, .int .u32 (nI v k)), (18, .int .i64 k)], (3332, .obj 51 (.agg [.ints .u8 64 (oI (oR x F2 i) v i k)])) :: [(32, .obj 51 (.agg [.ints .u8 64 (List.replicate 64 0)])), (1000, .vec 38 (.ints .u32 F2)), (3164, .vec 38 (.ints .u32 (x)))], 4000, 120⟩) (fun k => 4 - k) 0 (by simp) (by simp [wk, leL, lk, nmT, nmE, nmH, AV.nmIn, AV.nmInL, Ent.nmIn, Row.nmIn, oI, nI]) ?_
            intro k hk K4 hK4
            refine W.seqK fun K hK => ?_
            refine W.seqK fun K hK => W.regionK tt_ok ?_
            simp only [exOps_nil, exOps_cons, exOp_eq, nx_eq, cur_eq, stepQ, ev, ofV, lk, putT, erA, inB, opt, bnd, req, ret, onQ, ap, binG, binF, intF, true_and, and_self, Nat.reduceEqDiff, Nat.reduceLT, Nat.reduceAdd, if_true, if_false]
            refine hK _ ?_
            clear hK K
            refine W.cond (b := decide ((k : Int) < 4)) (by simp only [ev, lk, Nat.reduceEqDiff, if_true, if_false]) (fun hb' => W.skip ?_) (fun hb' => W.exit ?_)
            · rw [thn_normal]
              have hlt' : k < 4 := by have := of_decide_eq_true hb'; omega
              have w1 : IntKind.i64.wrap (4 * (i : Int)) = ((4 * i : Nat) : Int) := by rw [IntKind.wrap_i64]; omega
              have w2 : IntKind.i64.wrap (((4 * i : Nat) : Int) + (k : Int)) = ((4 * i + k : Nat) : Int) := by rw [IntKind.wrap_i64]; omega
              have hni := nI_ok hv0 k
              have w3 : Int.tmod (nI v k) 256 = nI v k % 256 := Int.tmod_eq_emod_of_nonneg hni.1
              have w4 : Int.tdiv (nI v k) 256 = nI v k / 256 := Int.tdiv_eq_ediv_of_nonneg hni.1
              have w5 : IntKind.u32.wrap (nI v k / 256) = nI v k / 256 := by rw [IntKind.wrap_u32]; omega
              have hol := oI_len (oR x F2 i) v i k
              rw [oR_len] at hol
              refine hK _ ?_
              clear hK K
              refine W.seqK fun K hK => W.blockK ?_
              refine W.seqK fun K hK => W.regionK tt_ok ?_
              simp only [exOps_nil, exOps_cons, exOp_eq, nx_eq, cur_eq, stepQ, ev, ofV, lk, putT, erA, inB, opt, bnd, req, ret, onQ, ap, up, er, AV.isTup, AV.isAgg, binG, binF, intF, Kd.elem, Kd.isInt, ixA, asI, Kd.agg, comps, csize, takeI, takeC, dropC, stP, stE, stC, stS, cvQ, and_true, true_and, and_self, Nat.reduceEqDiff, Nat.reduceLT, Nat.reduceLeDiff, Nat.reduceAdd, Nat.reduceSub, Int.toNat_natCast, Nat.zero_add, if_true, if_false, Bool.false_eq_true, reduceCtorEq, ne_eq, Option.bind_some, Option.map_some, tt_5, tt_38, tt_51, w1, w2, w3]
              repeat (refine ⟨by omega, ?_⟩)
              refine hK _ ?_
              clear hK K
              refine W.region tt_ok ?_
              simp only [exOps_nil, exOps_cons, exOp_eq, nx_eq, cur_eq, stepQ, ev, ofV, lk, putT, erA, inB, opt, bnd, req, ret, onQ, ap, binG, binF, intF, thn_normal, inb_normal, and_true, true_and, Nat.reduceEqDiff, Nat.reduceLT, Nat.reduceAdd, if_true, if_false, ne_eq, w4, w5]
              repeat (refine ⟨by omega, ?_⟩)
              refine hK _ ?_
              clear hK K
              refine W.region tt_ok ?_
              simp only [exOps_nil, exOps_cons, exOp_eq, nx_eq, cur_eq, stepQ, ev, ofV, lk, putT, erA, inB, opt, bnd, req, ret, onQ, ap, binG, binF, intF, thn_normal, true_and, and_self, Nat.reduceEqDiff, Nat.reduceLT, Nat.reduceAdd, if_true, if_false, wrap_up k (by omega)]
              refine hK4 _ (k + 1) (by omega) (by omega) ?_
              simp [wk, leL, lk, nmT, nmE, nmH, AV.nmIn, AV.nmInL, Ent.nmIn, Row.nmIn, oI, nI]
            · simp only [thn_normal, thn_exit, inb_normal, inb_exit, Nat.reduceEqDiff, if_true, if_false]
              clear hK K
              have hk4 : k = 4 := by have := of_decide_eq_false hb'; omega
              subst hk4
              refine hKr _ ?_
              clear hKr Kr
              refine W.region tt_ok ?_
              simp only [exOps_nil, exOps_cons, exOp_eq, nx_eq, cur_eq, stepQ, ev, ofV, lk, putT, erA, inB, opt, bnd, req, ret, onQ, ap, binG, binF, intF, thn_normal, true_and, and_self, Nat.reduceEqDiff, Nat.reduceLT, Nat.reduceAdd, if_true, if_false, wrap_up i (by omega)]
              refine hK3 _ (i + 1) (by omega) (by omega) ?_
              have hz : oR x F2 (i + 1) = oI (oR x F2 i) v i 4 := by rw [oR, hv]
              rw [hz]
              simp [wk, leL, lk, nmT, nmE, nmH, AV.nmIn, AV.nmInL, Ent.nmIn, Row.nmIn]
          · simp only [thn_normal, thn_exit, inb_exit, if_true]
            clear hK K
            have hi16 : i = 16 := by have := of_decide_eq_false hb; omega
            subst hi16
            refine hKz _ ?_
            clear hKz Kz
            have hol := oR_len x F2 16
            rw [hfin x F2 hx (by rw [← hF2, ← hF1, ← hF0, ← hskd])]
            refine W.seqK fun K hK => W.regionK tt_ok ?_
            simp only [exOps_nil, exOps_cons, exOp_eq, nx_eq, cur_eq, stepQ, ev, lk, putT, erA, inB, opt, bnd, req, ret, onQ, ap, up, er, AV.isAgg, ldP, ldE, ldC, ldS, Kd.agg, comps, szL, csize, takeI, takeC, dropC, stP, stE, stC, stS, true_and, and_self, Nat.reduceEqDiff, Nat.reduceLT, Nat.reduceLeDiff, Nat.reduceAdd, Nat.reduceSub, Nat.sub_self, Nat.le_refl, Nat.add_zero, Nat.zero_add, if_true, if_false, reduceCtorEq, Option.bind_some, Option.map_some, List.append_nil, List.nil_append, tt_51]
            repeat (refine ⟨by omega, ?_⟩)
            refine hK _ ?_
            clear hK K
            refine W.ret ?_
            simp only [fin_ret, finB, resQ, resV, leL, AV.nmIn, AV.nmInL, entsIn, lk, opt, bnd, req, ret, onQ, AV.isTup, ldP, ldE, ldC, ldS, Kd.agg, comps, csize, takeI, takeC, dropC, and_self, Nat.reduceEqDiff, Nat.reduceLT, Nat.reduceLeDiff, Nat.reduceSub, Nat.sub_self, Nat.le_refl, Nat.add_zero, if_true, if_false, reduceCtorEq, Option.bind_some, Option.map_some, tt_51]
end Go.Proofs.YtakgcmponelbeaaDoor.Sm
