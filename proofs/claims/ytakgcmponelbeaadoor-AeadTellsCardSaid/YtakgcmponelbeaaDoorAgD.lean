/- Sum. -/
import Derived.Test.YtakgcmponelbeaaDoorAgB
-- TT 3 4 5 22 24 45 23 65 67 68 71
set_option linter.unusedVariables false
set_option linter.unusedSimpArgs false
namespace Go.Proofs.YtakgcmponelbeaaDoor.Tg
open Sx
set_option maxRecDepth 100000
theorem call29 : Callable Tryd.prog 29 := ⟨_, Tryd.func29, by kernel_rfl, by kernel_rfl⟩
theorem call31 : Callable Tryd.prog 31 := ⟨_, Tryd.func31, by kernel_rfl, by kernel_rfl⟩
theorem bits64_range (op : BinOp) (x y : Int) : 0 ≤ bits op .u64 x y ∧ bits op .u64 x y < 18446744073709551616 := by
  unfold bits
  rw [IntKind.wrap_u64]
  omega
theorem R64.three {a b c : Int} (ha : 0 ≤ a ∧ a < 18446744073709551616) (hb : 0 ≤ b ∧ b < 18446744073709551616) (hc : 0 ≤ c ∧ c < 18446744073709551616) : R64 [a, b, c] := by
  intro i
  match i with
  | 0 => exact ha
  | 1 => exact hb
  | 2 => exact hc
  | i + 3 => simp
theorem R64.two {a b : Int} (ha : 0 ≤ a ∧ a < 18446744073709551616) (hb : 0 ≤ b ∧ b < 18446744073709551616) : R64 [a, b] := by
  intro i
  match i with
  | 0 => exact ha
  | 1 => exact hb
  | i + 2 => simp
theorem shr_range {a : Int} (h : 0 ≤ a ∧ a < 18446744073709551616) (n : Nat) : 0 ≤ a.fdiv (2 ^ n) ∧ a.fdiv (2 ^ n) < 18446744073709551616 := by
  have hp : (0 : Int) < 2 ^ n := Int.pow_pos (by omega)
  rw [Int.fdiv_eq_ediv_of_nonneg _ (by omega)]
  exact ⟨Int.ediv_nonneg h.1 (by omega), Int.lt_of_le_of_lt (Int.ediv_le_self _ h.1) h.2⟩
theorem lowOf_ok {w : List Int} (h : R64 w) : R64 (lowOf w) := R64.three (h 0) (h 1) (bits64_range _ _ _)
theorem fourOf_ok {w : List Int} (h : R64 w) : R64 (fourOf w) := R64.three (bits64_range _ _ _) (h 3) (h 4)
theorem oneOf_ok {w : List Int} (h : R64 w) : R64 (oneOf w) := R64.three (bits64_range _ _ _) (bits64_range _ _ _) (shr_range (h 4) _)
theorem times_ok {xs ys : List Int} (hx : R64 xs) (hy : R64 ys) : R64 (timesN xs ys) :=
  (plusC_ok _ _ (plusC_ok _ _ (lowOf_ok (tO_ok hx hy 3).2) (fourOf_ok (tO_ok hx hy 3).2) 3).2.2.2 (oneOf_ok (tO_ok hx hy 3).2) 3).2.2.2
theorem times_fn' (xs ys : List Int) (hx : R64 xs) (hy : R64 ys) :
    FnR Tryd.prog G 31 [.agg [.ints .u64 3 xs], .agg [.ints .u64 2 ys]] [] (.agg [.ints .u64 3 (timesN xs ys)]) [] :=
  times_fn xs ys hx hy (lowOf_ok (tO_ok hx hy 3).2) (fourOf_ok (tO_ok hx hy 3).2) (oneOf_ok (tO_ok hx hy 3).2)
theorem wordN_range (xs : List Int) : ∀ k, 0 ≤ wordN xs k ∧ wordN xs k < 18446744073709551616
  | 0 => by simp [wordN]
  | k + 1 => bits64_range _ _ _

/-- One block of the message. -/
def cpN (m : List Int) : List Int := List.take 0 (List.replicate 24 0) ++ m.take (min m.length 16) ++ (List.replicate 24 0).drop (m.take (min m.length 16)).length
def blkN (m : List Int) : List Int := (cpN m).set (min m.length 16) 1
theorem blkN_length (m : List Int) : (blkN m).length = 24 := by
  simp [blkN, cpN]; omega
theorem blk_eq (m : List Int) : (List.take 0 (List.replicate 24 (0 : Int)) ++ List.take (min m.length 16) m ++ List.drop (List.take (min m.length 16) m).length (List.replicate 24 (0 : Int))).set (min m.length 16) (1 : Int) = blkN m := rfl
theorem word_at (xs : List Int) (o n : Nat) (h : o + 8 ≤ xs.length) (hn : 8 ≤ n) : FnR Tryd.prog G 29 [.lstI .u8 ((xs.drop o).take n)] [] (.int .u64 (wordN ((xs.drop o).take n) 8)) [] :=
  word_fn _ (by rw [List.length_take, List.length_drop]; omega)
def rN (key : List Int) : List Int := [bits .and .u64 (wordN ((key.drop 0).take 32) 8) 1152921487695413247, bits .and .u64 (wordN ((key.drop 8).take 24) 8) 1152921487695413244]
def hN (r m : List Int) : Nat → List Int
  | 0 => List.replicate 3 0
  | k + 1 => timesN (plusC (hN r m k) [wordN (((blkN (m.drop (16 * k))).drop 0).take 24) 8, wordN (((blkN (m.drop (16 * k))).drop 8).take 16) 8, wordN (((blkN (m.drop (16 * k))).drop 16).take 8) 8] 3).1 r
theorem rep2 : List.replicate 2 (0 : Int) = [0, 0] := rfl
theorem rep3 : List.replicate 3 (0 : Int) = [0, 0, 0] := rfl
theorem hN_ok {r m : List Int} (hr : R64 r) : ∀ k, R64 (hN r m k)
  | 0 => R64.zeros 3
  | k + 1 => times_ok (plusC_ok _ _ (hN_ok hr k) (R64.three (wordN_range _ _) (wordN_range _ _) (wordN_range _ _)) 3).2.2.2 hr
theorem rN_ok (key : List Int) : R64 (rN key) := R64.two (bits64_range _ _ _) (bits64_range _ _ _)
theorem rest_eq (m : List Int) (k : Nat) : ((m.drop (16 * k)).take (m.drop (16 * k)).length).drop (min (m.drop (16 * k)).length 16) = m.drop (16 * (k + 1)) := by
  rw [List.take_length, List.drop_drop, List.length_drop]
  by_cases h : m.length - 16 * k ≤ 16
  · rw [Nat.min_eq_left h, List.drop_of_length_le (by omega), List.drop_of_length_le (by omega)]
  · rw [Nat.min_eq_right (by omega)]; congr 1
def foldH (h : List Int) : List Int := (plusC [h.getD 0 0, h.getD 1 0, bits .and .u64 (h.getD 2 0) 3] [IntKind.u64.wrap (5 * (h.getD 2 0).fdiv (2 ^ min 2 IntKind.u64.bits)), 0, 0] 3).1
def overH (h : List Int) : List Int := (plusC (foldH h) [5, 0, 0] 3).1
def pickH (h : List Int) : List Int := if 4 ≤ (overH h).getD 2 0 then overH h else foldH h
def lastH (key h : List Int) : List Int := (plusC [(pickH h).getD 0 0, (pickH h).getD 1 0, 0] [wordN ((key.drop 16).take 16) 8, wordN ((key.drop 24).take 8) 8, 0] 3).1
def outN (h : List Int) : Nat → List Int
  | 0 => List.replicate 16 0
  | k + 1 => (outN h k).set k (IntKind.u8.wrap ((h.getD (k / 8) 0).fdiv (2 ^ min (8 * (k % 8)) IntKind.u64.bits)))
def sumN (key m : List Int) : List Int := outN (lastH key (hN (rN key) m ((m.length + 15) / 16))) 16
theorem z0 : 0 ≤ (0 : Int) ∧ (0 : Int) < 18446744073709551616 := by omega
theorem z5 : 0 ≤ (5 : Int) ∧ (5 : Int) < 18446744073709551616 := by omega
theorem wrap_range (x : Int) : 0 ≤ IntKind.u64.wrap x ∧ IntKind.u64.wrap x < 18446744073709551616 := by rw [IntKind.wrap_u64]; omega
theorem foldH_ok {h : List Int} (hh : R64 h) : R64 (foldH h) := (plusC_ok _ _ (R64.three (hh 0) (hh 1) (bits64_range _ _ _)) (R64.three (wrap_range _) z0 z0) 3).2.2.2
theorem overH_ok {h : List Int} (hh : R64 h) : R64 (overH h) := (plusC_ok _ _ (foldH_ok hh) (R64.three z5 z0 z0) 3).2.2.2
theorem pickH_ok {h : List Int} (hh : R64 h) : R64 (pickH h) := by unfold pickH; split; exact overH_ok hh; exact foldH_ok hh
theorem sum_fn (key m : List Int) (hk : key.length = 32) (hm : m.length < 9223372036854775807) :
    FnR Tryd.prog G 22 [.agg [.ints .u8 32 key], .lstI .u8 m] [] (.agg [.ints .u8 16 (sumN key m)]) [] := by
  refine FnR.of_walk (m := 89) (n0 := 0) tt_ok Tryd.func22 rfl rfl (by simp) (by simp [nmH]) ?_
  rw [show Tryd.f22.results.toList = [.cell 4 45] from rfl]
  refine W.seqK fun K hK => W.regionK tt_ok ?_
  simp only [exOps_nil, exOps_cons, exOp_eq, nx_eq, cur_eq, stepQ, ev, lk, parT, putT, erA, inB, opt, req, ret, onQ, ap, up, er, AV.isTup, true_and, and_self, Nat.reduceEqDiff, Nat.reduceLT, Nat.reduceAdd, Nat.zero_add, if_true, if_false, reduceCtorEq, tt_45]
  refine hK _ ?_
  clear hK K
  refine W.seqK fun K hK => W.drawK [⟨0, true, []⟩, ⟨0, true, [0]⟩, ⟨0, false, [0, 1]⟩, ⟨0, true, []⟩, ⟨0, true, [0, 1, 3]⟩, ⟨0, false, [0, 1, 3, 4]⟩, ⟨0, true, [0, 1, 2, 3, 4, 5]⟩, ⟨1, false, []⟩, ⟨2, false, [0, 1, 2, 3, 4, 5, 6, 7]⟩] mix tt_ok (by kernel_rfl) ?_
  simp only [decide_true, Bool.or_true, Bool.or_false, List.contains_cons, List.contains_nil, Nat.reduceBEq, exOp_eq, exCall_eq, exD_cons, nxD_eq, cur_eq, flI, flE, ownB, evL, stepQ, ev, lk, putT, erA, inB, opt, bnd, req, ret, onQ, ap, comps, szL, csize, slF, bd, bds, true_and, and_self, Nat.reduceEqDiff, Nat.reduceLT, Nat.reduceLeDiff, Nat.reduceAdd, Nat.reduceSub, Nat.reduceMul, Nat.reduceDiv, Nat.add_zero, if_true, if_false, reduceCtorEq, Option.bind_some, Option.map_some, tt_5, tt_22]
  refine CallK.pure _ _ (word_at key 0 32 (by omega) (by omega)) call29 (by simp only [Bool.or_false, lk, opt, bnd, req, ret, onQ, AV.isTup, isTupL, Ent.row, and_true, true_and, and_self, Nat.zero_add, if_true, if_false, reduceCtorEq, forall_const, List.append_nil, vw.vwL, vw, viewR, AV.free, Ent.row, Bool.or_self]; all_goals (and_intros <;> first | exact AV.subL_refl _ | omega | rfl | (simp [AV.subL_refl]; done) | (simp; exact AV.subL_refl _) | (simp [AV.subL, AV.sub]; done))) ?_
  simp only [decide_true, Bool.or_true, Bool.or_false, List.contains_cons, List.contains_nil, Nat.reduceBEq, exOp_eq, exCall_eq, exD_cons, nxD_eq, cur_eq, flI, flE, ownB, evL, stepQ, ev, ofV, lk, putT, erA, inB, opt, bnd, req, ret, onQ, ap, binG, binF, intF, comps, szL, csize, slF, bd, bds, true_and, and_self, Nat.reduceEqDiff, Nat.reduceLT, Nat.reduceLeDiff, Nat.reduceAdd, Nat.reduceSub, Nat.reduceMul, Nat.reduceDiv, Int.reduceLE, Int.reduceToNat, Nat.add_zero, if_true, if_false, reduceCtorEq, Option.bind_some, Option.map_some, tt_5, tt_22]
  refine CallK.pure _ _ (word_at key 8 24 (by omega) (by omega)) call29 (by simp only [Bool.or_false, lk, opt, bnd, req, ret, onQ, AV.isTup, isTupL, Ent.row, and_true, true_and, and_self, Nat.reduceAdd, if_true, if_false, reduceCtorEq, forall_const, List.append_nil, vw.vwL, vw, viewR, AV.free, Ent.row, Bool.or_self]; all_goals (and_intros <;> first | exact AV.subL_refl _ | omega | rfl | (simp [AV.subL_refl]; done) | (simp; exact AV.subL_refl _) | (simp [AV.subL, AV.sub]; done))) ?_
  simp only [decide_true, Bool.or_true, Bool.or_false, List.contains_cons, List.contains_nil, Nat.reduceBEq, exOp_eq, exD_nil, exD_cons, nxD_eq, cur_eq, flI, flE, ownB, ownL, evP, stepQ, ev, ofV, lk, putT, erA, inB, opt, bnd, req, ret, onQ, ap, up, er, AV.isTup, AV.isAgg, binG, binF, intF, Kd.agg, comps, szL, csize, takeI, takeC, dropC, stP, stE, stC, stS, bldF, bldA, and_true, true_and, and_self, and_false, Nat.reduceEqDiff, Nat.reduceLT, Nat.reduceLeDiff, Nat.reduceAdd, Nat.reduceSub, Nat.reduceMul, Nat.reduceDiv, Nat.sub_self, Nat.le_refl, Nat.add_zero, Nat.zero_add, if_true, if_false, Bool.false_eq_true, reduceCtorEq, Option.bind_some, Option.map_some, List.append_nil, List.nil_append, List.cons_append, tt_23, tt_65]
  simp only [rep2, List.set_cons_zero, List.set_cons_succ]
  refine hK _ ?_
  clear hK K
  refine W.seqK fun K hK => W.regionK tt_ok ?_
  simp only [exOps_nil, exOps_cons, exOp_eq, nx_eq, cur_eq, stepQ, putT, erA, inB, opt, ret, onQ, ap, up, er, true_and, Nat.reduceEqDiff, Nat.reduceLT, Nat.reduceAdd, if_false, reduceCtorEq, tt_67]
  refine hK _ ?_
  clear hK K
  refine W.seqK fun K hK => W.blockK ?_
  refine W.loopK (fun k : Nat => k ≤ (m.length + 15) / 16) (fun k => ⟨[(1, .lstI .u8 (m.drop (16 * k))), (2, .ptr 0 0 0 1), (4, .ptr 16 0 0 1), (5, .ptr 144 0 0 1), (6, .ptr 176 0 0 1)], [(144, .obj 65 (.agg [.ints .u64 2 (rN key)])), (16, .obj 45 (.agg [.ints .u8 16 (List.replicate 16 0)])), (0, .obj 22 (.agg [.ints .u8 32 key])), (176, .obj 67 (.agg [.ints .u64 3 (hN (rN key) m k)]))], 192, 89⟩) (fun k => (m.length + 15) / 16 - k) 0 (by simp) (by simp [wk, leL, lk, nmT, nmE, nmH, AV.nmIn, AV.nmInL, Ent.nmIn, rN, hN]) ?_
  intro k hk' K3 hK3
  refine W.seqK fun K hK => ?_
  refine W.seqK fun K hK => W.regionK tt_ok ?_
  simp only [exOps_nil, exOps_cons, exOp_eq, exCall_eq, nx_eq, cur_eq, evL, stepQ, ev, ofV, lk, putT, erA, inB, opt, bnd, req, ret, onQ, ap, binG, binF, intF, bltQ, bltV, lenF, true_and, and_self, or_false, Nat.reduceEqDiff, Nat.reduceLT, Nat.reduceAdd, if_true, if_false, List.getElem?_cons_zero, Option.bind_some, Option.map_some, tt_24]
  refine hK _ ?_
  clear hK K
  refine W.cond (b := decide ((0 : Int) < (m.drop (16 * k)).length)) (by simp only [ev, lk, Nat.reduceEqDiff, if_true, if_false]) (fun hb => W.skip ?_) (fun hb => W.exit ?_)
  · rw [thn_normal]
    have hpos : 0 < (m.drop (16 * k)).length := by have := of_decide_eq_true hb; omega
    refine hK _ ?_
    clear hK K
    refine W.blockK ?_
    refine W.seqK fun K hK => W.regionK tt_ok ?_
    simp only [exOps_nil, exOps_cons, exOp_eq, nx_eq, cur_eq, stepQ, putT, erA, inB, opt, ret, onQ, ap, up, er, true_and, Nat.reduceEqDiff, Nat.reduceLT, Nat.reduceAdd, if_false, reduceCtorEq, tt_68]
    refine hK _ ?_
    clear hK K
    refine W.seqK fun K hK => W.regionK tt_ok ?_
    simp only [exOps_nil, exOps_cons, exOp_eq, exCall_eq, nx_eq, cur_eq, evL, stepQ, ev, ofV, lk, putT, erA, inB, opt, bnd, req, ret, onQ, ap, up, er, comps, szL, csize, bltQ, bltV, slF, bd, bds, copyQ, srcQ, rowOf, Row.len, Row.sz, Row.take, Ent.put, Ent.row, and_true, true_and, and_self, or_false, Nat.reduceEqDiff, Nat.reduceLT, Nat.reduceLeDiff, Nat.reduceAdd, Nat.reduceSub, Nat.reduceMul, Int.reduceLE, Int.reduceToNat, Nat.add_zero, Nat.zero_add, if_true, if_false, reduceCtorEq, Option.bind_some, Option.map_some, tt_5, tt_24, tt_68]
    refine ⟨by simp, ?_⟩
    refine hK _ ?_
    clear hK K
    refine W.seqK fun K hK => W.regionK tt_ok ?_
    simp only [exOps_nil, exOps_cons, exOp_eq, nx_eq, cur_eq, stepQ, ev, ofV, lk, putT, erA, inB, opt, bnd, req, ret, onQ, ap, up, er, AV.isTup, AV.isAgg, Kd.elem, Kd.isInt, ixA, asI, Kd.agg, comps, csize, takeI, takeC, dropC, stP, stE, stC, stS, and_true, true_and, and_self, Nat.reduceEqDiff, Nat.reduceLT, Nat.reduceLeDiff, Nat.reduceAdd, Nat.reduceSub, Int.toNat_natCast, Nat.zero_add, if_true, if_false, Bool.false_eq_true, reduceCtorEq, Option.bind_some, Option.map_some, tt_5, tt_68]
    refine ⟨by omega, by omega, ?_⟩
    refine hK _ ?_
    clear hK K
    refine W.seqK fun K hK => W.regionK tt_ok ?_
    simp only [exOps_nil, exOps_cons, exOp_eq, nx_eq, cur_eq, stepQ, ev, lk, putT, erA, inB, opt, bnd, req, ret, onQ, ap, slF, bd, bds, and_true, true_and, Nat.reduceEqDiff, Nat.reduceLT, Nat.reduceAdd, Int.toNat_natCast, if_true, if_false, tt_5, tt_24]
    refine ⟨by omega, ?_⟩
    refine hK _ ?_
    clear hK K
    have hbl := blkN_length (m.drop (16 * k))
    rw [blk_eq, rest_eq]
    have hh := hN_ok (m := m) (rN_ok key) k
    refine exD_sound (A := [⟨0, false, []⟩, ⟨0, false, []⟩, ⟨0, false, [1]⟩, ⟨0, false, []⟩, ⟨0, false, [1, 2, 3]⟩, ⟨0, false, []⟩, ⟨0, false, [1, 2, 3, 4, 5]⟩, ⟨0, false, [1, 2, 3, 4, 5, 6]⟩, ⟨0, false, [0, 1, 2, 3, 4, 5, 6, 7]⟩, ⟨0, false, []⟩, ⟨0, false, [0, 1, 2, 3, 4, 5, 6, 7, 8, 9]⟩, ⟨2, false, [0, 1, 2, 3, 4, 5, 6, 7, 8, 9, 10]⟩]) mix tt_ok (by kernel_rfl) ?_
    simp only [exOp_eq, exCall_eq, exD_cons, nxD_eq, cur_eq, flI, ownB, evL, stepQ, ev, lk, putT, erA, inB, opt, bnd, req, ret, onQ, ap, ldP, ldE, ldC, ldS, Kd.agg, comps, szL, csize, takeI, takeC, dropC, slF, bd, bds, true_and, and_self, Nat.reduceEqDiff, Nat.reduceLT, Nat.reduceLeDiff, Nat.reduceAdd, Nat.reduceSub, Nat.reduceMul, Nat.sub_self, Nat.le_refl, Nat.add_zero, if_true, if_false, reduceCtorEq, Option.bind_some, Option.map_some, tt_5, tt_67, tt_68, rep3]
    refine CallK.pure _ _ (word_at (blkN (m.drop (16 * k))) 0 24 (by omega) (by omega)) call29 (by simp only [Bool.or_false, lk, opt, bnd, req, ret, onQ, AV.isTup, isTupL, Ent.row, and_true, true_and, and_self, Nat.reduceEqDiff, Nat.zero_add, if_true, if_false, reduceCtorEq, forall_const, List.append_nil, vw.vwL, vw, viewR, AV.free, Ent.row, Bool.or_self]; all_goals (and_intros <;> first | exact AV.subL_refl _ | omega | rfl | (simp [AV.subL_refl]; done) | (simp; exact AV.subL_refl _) | (simp [AV.subL, AV.sub]; done))) ?_
    simp only [exOp_eq, exCall_eq, exD_cons, nxD_eq, cur_eq, flI, ownB, evL, stepQ, ev, ofV, lk, putT, erA, inB, opt, bnd, req, ret, onQ, ap, comps, szL, csize, slF, bd, bds, true_and, and_self, Nat.reduceEqDiff, Nat.reduceLT, Nat.reduceLeDiff, Nat.reduceAdd, Nat.reduceSub, Nat.reduceMul, Int.reduceLE, Int.reduceToNat, Nat.add_zero, if_true, if_false, reduceCtorEq, Option.bind_some, Option.map_some, tt_5, tt_68]
    refine CallK.pure _ _ (word_at (blkN (m.drop (16 * k))) 8 16 (by omega) (by omega)) call29 (by simp only [Bool.or_false, lk, opt, bnd, req, ret, onQ, AV.isTup, isTupL, Ent.row, and_true, true_and, and_self, Nat.reduceEqDiff, Nat.reduceAdd, if_true, if_false, reduceCtorEq, forall_const, List.append_nil, vw.vwL, vw, viewR, AV.free, Ent.row, Bool.or_self]; all_goals (and_intros <;> first | exact AV.subL_refl _ | omega | rfl | (simp [AV.subL_refl]; done) | (simp; exact AV.subL_refl _) | (simp [AV.subL, AV.sub]; done))) ?_
    simp only [exOp_eq, exCall_eq, exD_cons, nxD_eq, cur_eq, flI, ownB, evL, stepQ, ev, ofV, lk, putT, erA, inB, opt, bnd, req, ret, onQ, ap, comps, szL, csize, slF, bd, bds, true_and, and_self, Nat.reduceEqDiff, Nat.reduceLT, Nat.reduceLeDiff, Nat.reduceAdd, Nat.reduceSub, Nat.reduceMul, Int.reduceLE, Int.reduceToNat, Nat.add_zero, if_true, if_false, reduceCtorEq, Option.bind_some, Option.map_some, tt_5, tt_68]
    refine CallK.pure _ _ (word_at (blkN (m.drop (16 * k))) 16 8 (by omega) (by omega)) call29 (by simp only [Bool.or_false, lk, opt, bnd, req, ret, onQ, AV.isTup, isTupL, Ent.row, and_true, true_and, and_self, Nat.reduceEqDiff, Nat.reduceAdd, if_true, if_false, reduceCtorEq, forall_const, List.append_nil, vw.vwL, vw, viewR, AV.free, Ent.row, Bool.or_self]; all_goals (and_intros <;> first | exact AV.subL_refl _ | omega | rfl | (simp [AV.subL_refl]; done) | (simp; exact AV.subL_refl _) | (simp [AV.subL, AV.sub]; done))) ?_
    simp only [exOp_eq, exCall_eq, exD_cons, nxD_eq, cur_eq, flI, ownB, evL, evP, stepQ, ev, lk, putT, erA, inB, opt, bnd, req, ret, onQ, ap, AV.isTup, AV.isAgg, Kd.agg, comps, szL, csize, takeI, takeC, dropC, stC, stS, bldF, bldA, and_true, true_and, and_self, and_false, Nat.reduceEqDiff, Nat.reduceLT, Nat.reduceLeDiff, Nat.reduceAdd, Nat.reduceSub, Nat.reduceMul, Nat.sub_self, Nat.le_refl, Nat.add_zero, Nat.zero_add, if_true, if_false, Bool.false_eq_true, reduceCtorEq, Option.bind_some, Option.map_some, List.append_nil, List.nil_append, List.cons_append, tt_23, tt_67]
    simp only [rep3, List.set_cons_zero, List.set_cons_succ]
    have hp := plusC_ok _ _ hh (R64.three (wordN_range (((blkN (m.drop (16 * k))).drop 0).take 24) 8) (wordN_range (((blkN (m.drop (16 * k))).drop 8).take 16) 8) (wordN_range (((blkN (m.drop (16 * k))).drop 16).take 8) 8)) 3
    refine CallK.pure _ _ (plus_fn _ _ hh (R64.three (wordN_range (((blkN (m.drop (16 * k))).drop 0).take 24) 8) (wordN_range (((blkN (m.drop (16 * k))).drop 8).take 16) 8) (wordN_range (((blkN (m.drop (16 * k))).drop 16).take 8) 8))) call30 (by simp only [AV.nmIn, bnd, req, ret, onQ, AV.isTup, isTupL, true_and, and_self, Bool.false_eq_true, List.append_nil, vw.vwL, vw, AV.free, AV.freeL, Bool.or_self]; all_goals (and_intros <;> first | exact AV.subL_refl _ | omega | rfl | (simp []; done) | (simp; exact AV.subL_refl _) | (simp [AV.subL, AV.sub]; done))) ?_
    simp only [exOp_eq, exCall_eq, exD_cons, nxD_eq, cur_eq, flI, ownB, evL, stepQ, ev, lk, putT, erA, inB, opt, bnd, req, ret, onQ, ap, ldP, ldE, ldC, ldS, Kd.agg, comps, csize, takeI, takeC, dropC, true_and, and_self, Nat.reduceEqDiff, Nat.reduceLT, Nat.reduceLeDiff, Nat.reduceAdd, Nat.reduceSub, Nat.sub_self, Nat.le_refl, Nat.add_zero, if_true, if_false, reduceCtorEq, Option.bind_some, Option.map_some, tt_65]
    refine CallK.pure _ _ (times_fn' _ _ hp.2.2.2 (rN_ok key)) call31 (by simp only [AV.nmIn, bnd, req, ret, onQ, AV.isTup, isTupL, true_and, and_self, Bool.false_eq_true, List.append_nil, vw.vwL, vw, AV.free, AV.freeL, Bool.or_self]; all_goals (and_intros <;> first | exact AV.subL_refl _ | omega | rfl | (simp []; done) | (simp; exact AV.subL_refl _) | (simp [AV.subL, AV.sub]; done))) ?_
    simp only [exOp_eq, exD_nil, exD_cons, nxD_eq, cur_eq, flI, ownB, stepQ, ev, lk, putT, erA, inB, opt, bnd, req, ret, onQ, ap, up, er, AV.isAgg, Kd.agg, comps, szL, csize, takeI, takeC, dropC, stP, stE, stC, stS, thn_normal, inb_normal, true_and, and_self, Nat.reduceEqDiff, Nat.reduceLT, Nat.reduceLeDiff, Nat.reduceAdd, Nat.reduceSub, Nat.sub_self, Nat.le_refl, Nat.add_zero, Nat.zero_add, if_true, if_false, reduceCtorEq, Option.bind_some, Option.map_some, List.append_nil, List.nil_append, tt_67]
    have hlen : 16 * k < m.length := by rw [List.length_drop] at hpos; omega
    refine hK3 _ (k + 1) (by omega) (by omega) ?_
    simp [wk, leL, lk, nmT, nmE, nmH, AV.nmIn, AV.nmInL, Ent.nmIn, hN]
  · simp only [thn_normal, thn_exit, inb_exit, if_true]
    clear hK K
    have hend : m.length ≤ 16 * k := by have := of_decide_eq_false hb; rw [List.length_drop] at this; omega
    have hkk : k = (m.length + 15) / 16 := by omega
    have hh := hN_ok (m := m) (rN_ok key) k
    refine hK _ ?_
    clear hK K
    refine W.seqK fun K hK => W.regionK tt_ok ?_
    simp only [exOps_cons, exOp_eq, exCall_eq, nx_eq, cur_eq, evL, evP, stepQ, ev, ofV, lk, putT, erA, inB, opt, bnd, req, ret, onQ, ap, AV.isTup, AV.isAgg, binG, binF, intF, shiftF, Kd.elem, Kd.isInt, ixA, asI, ldP, ldE, ldC, ldS, Kd.agg, comps, szL, csize, takeI, takeC, dropC, stC, stS, bldF, bldA, and_true, true_and, and_self, and_false, Nat.reduceEqDiff, Nat.reduceLT, Nat.reduceLeDiff, Nat.reduceAdd, Nat.reduceSub, Nat.reduceMul, Int.reduceLE, Int.reduceToNat, Nat.sub_self, Nat.le_refl, Nat.add_zero, Nat.zero_add, if_true, if_false, Bool.false_eq_true, reduceCtorEq, Option.bind_some, Option.map_some, List.append_nil, List.nil_append, List.cons_append, tt_23, tt_67, rep3, List.set_cons_zero, List.set_cons_succ]
    refine ⟨by omega, by omega, by omega, by omega, ?_⟩
    refine CallK.pure _ _ (plus_fn _ _ (R64.three (hh 0) (hh 1) (bits64_range _ _ _)) (R64.three (wrap_range _) z0 z0)) call30 (by simp only [AV.nmIn, bnd, req, ret, onQ, AV.isTup, isTupL, true_and, and_self, Bool.false_eq_true, List.append_nil, vw.vwL, vw, AV.free, AV.freeL, Bool.or_self]; all_goals (and_intros <;> first | exact AV.subL_refl _ | omega | rfl | (simp []; done) | (simp; exact AV.subL_refl _) | (simp [AV.subL, AV.sub]; done))) ?_
    simp only [exOps_nil, exOps_cons, exOp_eq, nx_eq, cur_eq, stepQ, ev, lk, putT, erA, inB, opt, bnd, req, ret, onQ, ap, up, er, AV.isAgg, Kd.agg, comps, szL, csize, takeI, takeC, dropC, stP, stE, stC, stS, true_and, and_self, Nat.reduceEqDiff, Nat.reduceLT, Nat.reduceLeDiff, Nat.reduceAdd, Nat.reduceSub, Nat.sub_self, Nat.le_refl, Nat.add_zero, Nat.zero_add, if_true, if_false, reduceCtorEq, Option.bind_some, Option.map_some, List.append_nil, List.nil_append, tt_67]
    refine hK _ ?_
    clear hK K
    refine W.seqK fun K hK => W.regionK tt_ok ?_
    simp only [exOps_cons, exOp_eq, exCall_eq, nx_eq, cur_eq, evL, evP, stepQ, ev, ofV, lk, putT, erA, inB, opt, bnd, req, ret, onQ, ap, AV.isTup, AV.isAgg, ldP, ldE, ldC, ldS, Kd.agg, comps, csize, takeI, takeC, dropC, stC, stS, bldF, bldA, true_and, and_self, Nat.reduceEqDiff, Nat.reduceLT, Nat.reduceLeDiff, Nat.reduceAdd, Nat.reduceSub, Nat.reduceMul, Nat.sub_self, Nat.le_refl, Nat.add_zero, Nat.zero_add, if_true, if_false, Bool.false_eq_true, reduceCtorEq, Option.bind_some, Option.map_some, tt_23, tt_67, rep3, List.set_cons_zero]
    refine CallK.pure _ _ (plus_fn _ _ (foldH_ok hh) (R64.three z5 z0 z0)) call30 (by simp only [AV.nmIn, bnd, req, ret, onQ, AV.isTup, isTupL, true_and, and_self, Bool.false_eq_true, List.append_nil, vw.vwL, vw, AV.free, AV.freeL, Bool.or_self]; all_goals (and_intros <;> first | exact AV.subL_refl _ | omega | rfl | (simp []; done) | (simp; exact AV.subL_refl _) | (simp [AV.subL, AV.sub]; done))) ?_
    simp only [exOps_nil, exOps_cons, exOp_eq, nx_eq, cur_eq, stepQ, ev, lk, putT, erA, inB, opt, bnd, req, ret, onQ, ap, up, er, AV.isAgg, Kd.agg, comps, szL, csize, takeI, takeC, dropC, stP, stE, stC, stS, true_and, and_self, Nat.reduceEqDiff, Nat.reduceLT, Nat.reduceLeDiff, Nat.reduceAdd, Nat.reduceSub, Nat.sub_self, Nat.le_refl, Nat.add_zero, Nat.zero_add, if_true, if_false, reduceCtorEq, Option.bind_some, Option.map_some, List.append_nil, List.nil_append, tt_67]
    refine hK _ ?_
    clear hK K
    refine W.joinK ⟨[(2, .ptr 0 0 0 1), (4, .ptr 16 0 0 1), (6, .ptr 176 0 0 1)], [(16, .obj 45 (.agg [.ints .u8 16 (List.replicate 16 0)])), (0, .obj 22 (.agg [.ints .u8 32 key])), (176, .obj 67 (.agg [.ints .u64 3 (pickH (hN (rN key) m k))]))], 192, 89⟩ (fun K hK => ?_) ?_
    · refine W.seqK fun K hK => W.regionK tt_ok ?_
      simp only [exOps_nil, exOps_cons, exOp_eq, nx_eq, cur_eq, stepQ, ev, ofV, lk, putT, erA, inB, opt, bnd, req, ret, onQ, ap, binG, binF, intF, Kd.elem, Kd.isInt, ixA, asI, ldP, ldE, ldC, ldS, Kd.agg, comps, csize, takeI, takeC, dropC, and_true, true_and, and_self, Nat.reduceEqDiff, Nat.reduceLT, Nat.reduceLeDiff, Nat.reduceAdd, Nat.reduceSub, Nat.reduceMul, Int.reduceLE, Int.reduceToNat, Nat.zero_add, if_true, if_false, Bool.false_eq_true, reduceCtorEq, Option.bind_some, Option.map_some, tt_23, tt_67]
      refine ⟨by omega, ?_⟩
      refine hK _ ?_
      clear hK K
      refine W.cond (b := decide (4 ≤ (overH (hN (rN key) m k)).getD 2 0)) (by simp only [ev, lk, Nat.reduceEqDiff, if_true, if_false]; rfl) (fun hb => ?_) (fun hb => W.skip ?_)
      · have h4 := of_decide_eq_true hb
        refine W.region tt_ok ?_
        simp only [exOps_nil, exOps_cons, exOp_eq, nx_eq, cur_eq, stepQ, ev, lk, putT, erA, inB, opt, bnd, req, ret, onQ, ap, up, er, AV.isAgg, ldP, ldE, ldC, ldS, Kd.agg, comps, szL, csize, takeI, takeC, dropC, stP, stE, stC, stS, thn_normal, true_and, and_self, Nat.reduceEqDiff, Nat.reduceLT, Nat.reduceLeDiff, Nat.reduceAdd, Nat.reduceSub, Nat.sub_self, Nat.le_refl, Nat.add_zero, Nat.zero_add, if_true, if_false, reduceCtorEq, Option.bind_some, Option.map_some, List.append_nil, List.nil_append, tt_67]
        refine hK _ ?_
        simp only [pickH, if_pos h4]
        simp [wk, leL, lk, nmT, nmE, nmH, AV.nmIn, AV.nmInL, Ent.nmIn, overH, foldH]
      · have h4 := of_decide_eq_false hb
        rw [thn_normal]
        refine hK _ ?_
        simp only [pickH, if_neg h4]
        simp [wk, leL, lk, nmT, nmE, nmH, AV.nmIn, AV.nmInL, Ent.nmIn, foldH]
    have hph := pickH_ok hh
    refine W.seqK fun K hK => W.drawK [⟨0, false, []⟩, ⟨0, false, [0]⟩, ⟨0, false, []⟩, ⟨0, false, [2]⟩, ⟨0, false, [0, 1, 2, 3]⟩, ⟨0, false, []⟩, ⟨0, false, [5]⟩, ⟨0, false, []⟩, ⟨0, false, [5, 6, 7]⟩, ⟨0, false, [5, 6, 7, 8]⟩, ⟨0, false, [0, 1, 2, 3, 4, 5, 6, 7, 8, 9]⟩, ⟨2, false, [0, 1, 2, 3, 4, 5, 6, 7, 8, 9, 10]⟩] mix tt_ok (by kernel_rfl) ?_
    simp only [exOp_eq, exCall_eq, exD_cons, nxD_eq, cur_eq, flI, ownB, evL, evP, stepQ, ev, ofV, lk, putT, erA, inB, opt, bnd, req, ret, onQ, ap, AV.isTup, AV.isAgg, Kd.elem, Kd.isInt, ixA, asI, ldP, ldE, ldC, ldS, Kd.agg, comps, szL, csize, takeI, takeC, dropC, stC, stS, slF, bd, bds, bldF, bldA, and_true, true_and, and_self, Nat.reduceEqDiff, Nat.reduceLT, Nat.reduceLeDiff, Nat.reduceAdd, Nat.reduceSub, Nat.reduceMul, Int.reduceLE, Int.reduceToNat, Nat.add_zero, Nat.zero_add, if_true, if_false, Bool.false_eq_true, reduceCtorEq, Option.bind_some, Option.map_some, tt_5, tt_22, tt_23, tt_67, rep3, List.set_cons_zero, List.set_cons_succ]
    refine ⟨by omega, by omega, ?_⟩
    refine CallK.pure _ _ (word_at key 16 16 (by omega) (by omega)) call29 (by simp only [Bool.or_false, lk, opt, bnd, req, ret, onQ, AV.isTup, isTupL, Ent.row, and_true, true_and, and_self, Nat.reduceAdd, if_true, if_false, reduceCtorEq, forall_const, List.append_nil, vw.vwL, vw, viewR, AV.free, Ent.row, Bool.or_self]; all_goals (and_intros <;> first | exact AV.subL_refl _ | omega | rfl | (simp [AV.subL_refl]; done) | (simp; exact AV.subL_refl _) | (simp [AV.subL, AV.sub]; done))) ?_
    simp only [exOp_eq, exCall_eq, exD_cons, nxD_eq, cur_eq, flI, ownB, evL, stepQ, ev, ofV, lk, putT, erA, inB, opt, bnd, req, ret, onQ, ap, comps, szL, csize, slF, bd, bds, true_and, and_self, Nat.reduceEqDiff, Nat.reduceLT, Nat.reduceLeDiff, Nat.reduceAdd, Nat.reduceSub, Nat.reduceMul, Int.reduceLE, Int.reduceToNat, Nat.add_zero, if_true, if_false, reduceCtorEq, Option.bind_some, Option.map_some, tt_5, tt_22]
    refine CallK.pure _ _ (word_at key 24 8 (by omega) (by omega)) call29 (by simp only [Bool.or_false, lk, opt, bnd, req, ret, onQ, AV.isTup, isTupL, Ent.row, and_true, true_and, and_self, Nat.reduceAdd, if_true, if_false, reduceCtorEq, forall_const, List.append_nil, vw.vwL, vw, viewR, AV.free, Ent.row, Bool.or_self]; all_goals (and_intros <;> first | exact AV.subL_refl _ | omega | rfl | (simp [AV.subL_refl]; done) | (simp; exact AV.subL_refl _) | (simp [AV.subL, AV.sub]; done))) ?_
    simp only [exOp_eq, exCall_eq, exD_cons, nxD_eq, cur_eq, flI, ownB, evL, evP, stepQ, ev, lk, putT, erA, inB, opt, bnd, req, ret, onQ, ap, AV.isTup, AV.isAgg, Kd.agg, comps, csize, takeI, takeC, dropC, stC, stS, bldF, bldA, true_and, and_self, Nat.reduceEqDiff, Nat.reduceLT, Nat.reduceLeDiff, Nat.reduceAdd, Nat.reduceSub, Nat.reduceMul, Nat.add_zero, Nat.zero_add, if_true, if_false, Bool.false_eq_true, reduceCtorEq, Option.bind_some, Option.map_some, tt_23, tt_67]
    simp only [rep3, List.set_cons_zero, List.set_cons_succ]
    refine CallK.pure _ _ (plus_fn _ _ (R64.three (hph 0) (hph 1) z0) (R64.three (wordN_range ((key.drop 16).take 16) 8) (wordN_range ((key.drop 24).take 8) 8) z0)) call30 (by simp only [AV.nmIn, bnd, req, ret, onQ, AV.isTup, isTupL, true_and, and_self, Bool.false_eq_true, List.append_nil, vw.vwL, vw, AV.free, AV.freeL, Bool.or_self]; all_goals (and_intros <;> first | exact AV.subL_refl _ | omega | rfl | (simp []; done) | (simp; exact AV.subL_refl _) | (simp [AV.subL, AV.sub]; done))) ?_
    simp only [exOp_eq, exD_nil, exD_cons, nxD_eq, cur_eq, flI, ownB, stepQ, ev, lk, putT, erA, inB, opt, bnd, req, ret, onQ, ap, up, er, AV.isAgg, Kd.agg, comps, szL, csize, takeI, takeC, dropC, stP, stE, stC, stS, true_and, and_self, Nat.reduceEqDiff, Nat.reduceLT, Nat.reduceLeDiff, Nat.reduceAdd, Nat.reduceSub, Nat.sub_self, Nat.le_refl, Nat.add_zero, Nat.zero_add, if_true, if_false, reduceCtorEq, Option.bind_some, Option.map_some, List.append_nil, List.nil_append, tt_67]
    refine hK _ ?_
    clear hK K
    refine W.seqK fun K hK => W.regionK tt_ok ?_
    simp only [exOps_nil, exOps_cons, exOp_eq, nx_eq, cur_eq, stepQ, putT, erA, inB, opt, ret, onQ, ap, up, er, true_and, Nat.reduceEqDiff, Nat.reduceLT, Nat.reduceAdd, if_false, reduceCtorEq, tt_45]
    refine hK _ ?_
    clear hK K
    refine W.seqK fun K hK => ?_
    refine W.seqK fun K hK => W.regionK tt_ok ?_
    simp only [exOps_nil, exOps_cons, exOp_eq, nx_eq, cur_eq, stepQ, ev, ofV, putT, erA, inB, opt, ret, onQ, ap, true_and, Nat.reduceEqDiff, Nat.reduceLT, Nat.reduceAdd, if_false]
    refine hK _ ?_
    clear hK K
    refine W.blockK ?_
    refine W.loopK (fun j : Nat => j ≤ 16) (fun j => ⟨[(4, .ptr 16 0 0 1), (6, .ptr 176 0 0 1), (10, .ptr 384 0 0 1), (73, .int .i64 j)], [(16, .obj 45 (.agg [.ints .u8 16 (List.replicate 16 0)])), (176, .obj 67 (.agg [.ints .u64 3 (lastH key (hN (rN key) m k))])), (384, .obj 45 (.agg [.ints .u8 16 (outN (lastH key (hN (rN key) m k)) j)]))], 400, 89⟩) (fun j => 16 - j) 0 (by simp) (by simp [wk, leL, lk, nmT, nmE, nmH, AV.nmIn, AV.nmInL, Ent.nmIn, outN, lastH]) ?_
    intro j hj K4 hK4
    refine W.seqK fun K hK => W.regionK tt_ok ?_
    simp only [exOps_nil, exOps_cons, exOp_eq, nx_eq, cur_eq, stepQ, ev, ofV, lk, putT, erA, inB, opt, bnd, req, ret, onQ, ap, binG, binF, intF, true_and, and_self, Nat.reduceEqDiff, Nat.reduceLT, Nat.reduceAdd, if_true, if_false]
    refine hK _ ?_
    clear hK K
    refine W.seqK fun K hK => W.cond (b := decide ((j : Int) < 16)) (by simp only [ev, lk, Nat.reduceEqDiff, if_true, if_false]) (fun hb => W.skip ?_) (fun hb => W.exit ?_)
    · rw [thn_normal]
      have hlt : j < 16 := by have := of_decide_eq_true hb; omega
      have e1 : (j : Int).tdiv 8 = ((j / 8 : Nat) : Int) := by rw [Int.tdiv_eq_ediv_of_nonneg (by omega)]; omega
      have e2 : (j : Int).tmod 8 = ((j % 8 : Nat) : Int) := by rw [Int.tmod_eq_emod_of_nonneg (by omega)]; omega
      have e3 : IntKind.i64.wrap ((j / 8 : Nat) : Int) = ((j / 8 : Nat) : Int) := by rw [IntKind.wrap_i64]; omega
      have e4 : IntKind.i64.wrap (8 * ((j % 8 : Nat) : Int)) = ((8 * (j % 8) : Nat) : Int) := by rw [IntKind.wrap_i64]; omega
      refine hK _ ?_
      clear hK K
      refine W.seqK fun K hK => W.blockK ?_
      refine W.seqK fun K hK => W.regionK tt_ok ?_
      simp only [exOps_nil, exOps_cons, exOp_eq, nx_eq, cur_eq, stepQ, ev, lk, putT, erA, inB, opt, ret, onQ, ap, true_and, Nat.reduceEqDiff, Nat.reduceLT, Nat.reduceAdd, if_true, if_false]
      refine hK _ ?_
      clear hK K
      refine W.region tt_ok ?_
      simp only [exOps_nil, exOps_cons, exOp_eq, nx_eq, cur_eq, stepQ, ev, ofV, lk, putT, erA, inB, opt, bnd, req, ret, onQ, ap, up, er, AV.isTup, AV.isAgg, binG, binF, intF, shiftF, Kd.elem, Kd.isInt, ixA, asI, ldP, ldE, ldC, ldS, Kd.agg, comps, csize, takeI, takeC, dropC, stP, stE, stC, stS, cvQ, thn_normal, inb_normal, and_true, true_and, and_self, Nat.reduceEqDiff, Nat.reduceLT, Nat.reduceLeDiff, Nat.reduceAdd, Nat.reduceSub, Int.toNat_natCast, Nat.zero_add, if_true, if_false, Bool.false_eq_true, reduceCtorEq, ne_eq, Option.bind_some, Option.map_some, tt_5, tt_45, tt_23, tt_67, e1, e2, e3, e4]
      and_intros
      all_goals first | omega | skip
      refine hK _ ?_
      clear hK K
      refine W.region tt_ok ?_
      simp only [exOps_nil, exOps_cons, exOp_eq, nx_eq, cur_eq, stepQ, ev, ofV, lk, putT, erA, inB, opt, bnd, req, ret, onQ, ap, binG, binF, intF, thn_normal, true_and, and_self, Nat.reduceEqDiff, Nat.reduceLT, Nat.reduceAdd, if_true, if_false, wrap_up j (by omega)]
      refine hK4 _ (j + 1) (by omega) (by omega) ?_
      simp [wk, leL, lk, nmT, nmE, nmH, AV.nmIn, AV.nmInL, Ent.nmIn, outN]
    · simp only [thn_normal, thn_exit, inb_exit, if_true]
      clear hK K
      have hj16 : j = 16 := by have := of_decide_eq_false hb; omega
      subst hj16
      refine hK _ ?_
      clear hK K
      refine W.seqK fun K hK => W.regionK tt_ok ?_
      simp only [exOps_nil, exOps_cons, exOp_eq, nx_eq, cur_eq, stepQ, ev, lk, putT, erA, inB, opt, bnd, req, ret, onQ, ap, up, er, AV.isAgg, ldP, ldE, ldC, ldS, Kd.agg, comps, szL, csize, takeI, takeC, dropC, stP, stE, stC, stS, true_and, and_self, Nat.reduceEqDiff, Nat.reduceLT, Nat.reduceLeDiff, Nat.reduceAdd, Nat.reduceSub, Nat.sub_self, Nat.le_refl, Nat.add_zero, Nat.zero_add, if_true, if_false, reduceCtorEq, Option.bind_some, Option.map_some, List.append_nil, List.nil_append, tt_45]
      refine hK _ ?_
      clear hK K
      refine W.ret ?_
      simp only [fin_ret, finB, resQ, resV, leL, AV.nmIn, AV.nmInL, entsIn, lk, opt, bnd, req, ret, onQ, AV.isTup, ldP, ldE, ldC, ldS, Kd.agg, comps, csize, takeI, takeC, dropC, and_true, true_and, and_self, Nat.reduceEqDiff, Nat.reduceLT, Nat.reduceLeDiff, Nat.reduceSub, Nat.sub_self, Nat.le_refl, Nat.add_zero, if_true, if_false, reduceCtorEq, Option.bind_some, Option.map_some, tt_45]
      simp [sumN, hkk]
end Go.Proofs.YtakgcmponelbeaaDoor.Tg
