/- The document's digest. -/
import Derived.Test.YtageadccfdbmjaaDoorRsN
import Derived.Test.YtageadccfdbmjaaDoorRsL
import Derived.Test.YtageadccfdbmjaaDoorRsI
import Derived.Test.YtageadccfdbmjaaDoorRsKe
-- TT 2 3 4 5 22 24 26 28 59 71
-- SIMP Sx.stP
set_option linter.unusedVariables false
set_option linter.unusedSimpArgs false
namespace Go.Proofs.YtageadccfdbmjaaDoor
open Sx
set_option maxRecDepth 100000
set_option maxHeartbeats 1000000
def blK (f : List Int) : Nat → List Int
  | 0 => startL
  | j + 1 => blkR (blK f j) constL ((f.drop (64 * j)).take 64)
theorem blK_len (f : List Int) : ∀ j, (blK f j).length = 8
  | 0 => rfl
  | j + 1 => blkR_len _ _ _
def inR (l : List Int) (i : Nat) (v : Int) : Nat → List Int × Int
  | 0 => (l, v)
  | k + 1 => match inR l i v k with
    | (o, n) => (o.set (4 * i + (3 - k)) (IntKind.u8.wrap (n.tmod 256)), IntKind.u32.wrap (n.tdiv 256))
theorem inR_s (l : List Int) (i : Nat) (v : Int) (k : Nat) : inR l i v (k + 1) = ((inR l i v k).1.set (4 * i + (3 - k)) (IntKind.u8.wrap ((inR l i v k).2.tmod 256)), IntKind.u32.wrap ((inR l i v k).2.tdiv 256)) := rfl
theorem inR_len (l : List Int) (i : Nat) (v : Int) : ∀ k, (inR l i v k).1.length = l.length
  | 0 => rfl
  | k + 1 => by rw [inR_s, List.length_set, inR_len l i v k]
def outR (s : List Int) : Nat → List Int
  | 0 => List.replicate 32 0
  | i + 1 => (inR (outR s i) i (s.getD i 0) 4).1
theorem outR_len (s : List Int) : ∀ i, (outR s i).length = 32
  | 0 => by rw [outR, List.length_replicate]
  | i + 1 => by rw [outR, inR_len, outR_len s i]
def sumR (b : List Int) : List Int := outR (blK (filN b) ((filN b).length / 64)) 8
theorem rsum_fn (b : List Int) (hb : b.length ≤ 100000) : FnR Tryd.prog G 17 [.lstI .u8 b] [] (.agg [.ints .u8 32 (sumR b)]) [] := by
  have hz : zsN b = (119 - b.length % 64) % 64 := rfl
  have hfl := filN_len b
  have c29 := roots_own 16 64 310 3 (by omega) (by omega) (by omega) (pr_below (by rw [pr63]; omega)) (by rw [pr64]; rfl) (by omega)
  have c29' := roots_own 48 8 18 2 (by omega) (by omega) (by omega) (pr_below (by rw [pr7]; omega)) (by rw [pr8]; rfl) (by omega)
  have e1 : rtL (prK 310) 3 64 = constL := by rw [pr64, rtL, List.take_of_length_le (by decide)]; exact const_roots
  have e2 : rtL (prK 18) 2 8 = startL := by rw [pr8, rtL, List.take_take]; exact start_roots
  have h0 : blK (filN b) 0 = startL := rfl
  rw [e1] at c29
  rw [e2, ← h0] at c29'
  have c30 := fill_own 96 b hb
  have hcl : constL.length = 64 := rfl
  rw [sumR]
  generalize filN b = f at *
  generalize hKC : constL = KC at *
  refine FnR.of_walk (m := 52) (n0 := 0) tt_ok Tryd.func17 rfl rfl (by simp) (by simp [nmH]) ?_
  rw [show Tryd.f17.results.toList = [.cell 2 24] from rfl]
  refine W.seqK fun K hK => W.regionK tt_ok ?_
  simp only [exOps_nil, exOps_cons, exOp_eq, nx_eq, cur_eq, stepQ, parT, putT, erA, inB, opt, ret, onQ, ap, up, er, true_and, Nat.reduceLT, Nat.zero_add, if_false, reduceCtorEq, tt_24]
  refine hK _ ?_
  clear hK K
  refine W.seqK fun K hK => W.regionK tt_ok ?_
  simp only [exOps_cons, exOp_eq, exCall_eq, evL, ev, ofV, inB, true_and, Nat.reduceLT, Option.bind_some, Option.map_some]
  refine CallK.with [] [(16, .vec 26 (.ints .u32 KC))] _ _ c29 call29 (by simp only [AV.nmIn, bnd, req, ret, onQ, AV.isTup, isTupL, true_and, and_self, Bool.false_eq_true, List.append_nil, vw.vwL, vw, AV.free, Bool.or_self]; all_goals (and_intros <;> first | exact AV.subL_refl _ | omega | (simp [AV.sub, entsFree, Ent.free, Row.free]; done) | rfl | (simp [AV.subL_refl]; done))) (by simp [leL]) (by intro n hn; first | (left; revert hn; simp [Nm, lk]; done) | (right; revert hn; simp only [Nm, lk]; split <;> simp <;> omega) | (by_cases h1 : Nm [] n; exact .inl h1; right; revert hn h1; simp only [Nm, lk]; split <;> (try split) <;> (try split) <;> (try split) <;> (try simp) <;> (try omega))) (by simp [entsIn]) ?_
  simp only [callDel, exOps_nil, exOps_cons, exOp_eq, nx_eq, cur_eq, stepQ, ev, lk, putT, erA, inB, opt, ret, onQ, ap, up, er, true_and, Nat.reduceEqDiff, Nat.reduceLT, Nat.reduceAdd, if_true, if_false, reduceCtorEq, List.nil_append, List.map_cons, List.map_nil, List.reverse_cons, List.reverse_nil]
  refine hK _ ?_
  clear hK K
  refine W.seqK fun K hK => W.regionK tt_ok ?_
  simp only [exOps_cons, exOp_eq, exCall_eq, evL, ev, ofV, inB, true_and, Nat.reduceLT, Option.bind_some, Option.map_some]
  refine CallK.with [] [(48, .vec 26 (.ints .u32 (blK f 0)))] _ _ c29' call29 (by simp only [AV.nmIn, bnd, req, ret, onQ, AV.isTup, isTupL, true_and, and_self, Bool.false_eq_true, List.append_nil, vw.vwL, vw, AV.free, Bool.or_self]; all_goals (and_intros <;> first | exact AV.subL_refl _ | omega | (simp [AV.sub, entsFree, Ent.free, Row.free]; done) | rfl | (simp [AV.subL_refl]; done))) (by simp [leL]) (by intro n hn; first | (left; revert hn; simp [Nm, lk]; done) | (right; revert hn; simp only [Nm, lk]; split <;> simp <;> omega) | (by_cases h1 : Nm [] n; exact .inl h1; right; revert hn h1; simp only [Nm, lk]; split <;> (try split) <;> (try split) <;> (try split) <;> (try simp) <;> (try omega))) (by simp [entsIn]) ?_
  simp only [callDel, exOps_nil, exOps_cons, exOp_eq, nx_eq, cur_eq, stepQ, ev, lk, putT, erA, inB, opt, ret, onQ, ap, up, er, true_and, Nat.reduceEqDiff, Nat.reduceLT, Nat.reduceAdd, if_true, if_false, reduceCtorEq, List.nil_append, List.map_cons, List.map_nil, List.reverse_cons, List.reverse_nil]
  refine hK _ ?_
  clear hK K
  refine W.seqK fun K hK => W.regionK tt_ok ?_
  simp only [exOps_cons, exOp_eq, exCall_eq, nx_eq, cur_eq, evL, stepQ, ev, lk, putT, erA, inB, opt, ret, onQ, ap, true_and, Nat.reduceEqDiff, Nat.reduceLT, Nat.reduceAdd, if_true, if_false, reduceCtorEq, Option.bind_some, Option.map_some]
  refine CallK.with [] [(96, .vec 5 (.ints .u8 f))] _ _ c30 call30 (by simp only [AV.nmIn, bnd, req, ret, onQ, AV.isTup, isTupL, true_and, and_self, Bool.false_eq_true, List.append_nil, vw.vwL, vw, AV.free, Bool.or_self]; all_goals (and_intros <;> first | exact AV.subL_refl _ | omega | (simp [AV.sub, entsFree, Ent.free, Row.free]; done) | rfl | (simp [AV.subL_refl]; done))) (by simp [leL]) (by intro n hn; first | (left; revert hn; simp [Nm, lk]; done) | (right; revert hn; simp only [Nm, lk]; split <;> simp <;> omega) | (by_cases h1 : Nm [] n; exact .inl h1; right; revert hn h1; simp only [Nm, lk]; split <;> (try split) <;> (try split) <;> (try split) <;> (try simp) <;> (try omega))) (by simp [entsIn]) ?_
  simp only [callDel, exOps_nil, exOps_cons, exOp_eq, nx_eq, cur_eq, stepQ, ev, lk, putT, erA, inB, opt, ret, onQ, ap, up, er, true_and, Nat.reduceEqDiff, Nat.reduceLT, Nat.reduceAdd, if_true, if_false, reduceCtorEq, List.nil_append, List.map_cons, List.map_nil, List.reverse_cons, List.reverse_nil]
  refine hK _ ?_
  clear hK K
  refine W.seqK fun Kx hKx => ?_
  refine W.seqK fun K hK => W.regionK tt_ok ?_
  simp only [exOps_nil, exOps_cons, exOp_eq, nx_eq, cur_eq, stepQ, ev, ofV, putT, erA, inB, opt, ret, onQ, ap, true_and, Nat.reduceEqDiff, Nat.reduceLT, Nat.reduceAdd, if_false, reduceCtorEq]
  refine hK _ ?_
  clear hK K
  refine W.blockK ?_
  refine W.loopS (fun j : Nat => j ≤ f.length / 64) (fun j => ⟨[(2, .ptr 0 0 0 1), (3, .sl 16 1 0 64), (4, .sl 48 1 0 8), (5, .sl 96 1 0 f.length), (6, .int .i64 ((64 * j : Nat) : Int))], [(0, .obj 24 (.agg [.ints .u8 32 (List.replicate 32 0)])), (16, .vec 26 (.ints .u32 KC)), (48, .vec 26 (.ints .u32 (blK f j))), (96, .vec 5 (.ints .u8 f))], 700, 52⟩) (fun j => f.length / 64 - j) 0 (by simp) (by simp [wk, leL, lk, nmT, nmE, nmH, AV.nmIn, AV.nmInL, Ent.nmIn, Row.nmIn]) ?_
  intro j hj K3 hK3
  have hbl := blK_len f j
  by_cases hlt : j < f.length / 64
  · have c1 : ((64 * j : Nat) : Int) < (f.length : Nat) := by omega
    have hw : IntKind.i64.wrap (((64 * j : Nat) : Int) + 64) = ((64 * (j + 1) : Nat) : Int) := by rw [IntKind.wrap_i64]; omega
    have hn : blK f (j + 1) = blkR (blK f j) constL ((f.drop (64 * j)).take 64) := rfl
    rw [hKC] at hn
    have h64 : 64 * (j + 1) - 64 * j = 64 := by omega
    have cb := block_own 876 (blK f j) KC ((f.drop (64 * j)).take 64) hbl hcl (by rw [List.length_take, List.length_drop]; omega)
    rw [← hn] at cb
    generalize hT1 : blK f (j + 1) = X1 at *
    generalize hT0 : blK f j = X at *
    have cb' : FnR Tryd.prog G 31 [.lstI .u32 (List.take 8 (List.drop 0 X)), .lstI .u32 (List.take 64 (List.drop 0 KC)), .lstI .u8 (List.take 64 (List.drop (64 * j) f))] [] (.sl 876 1 0 8) [(876, .vec 26 (.ints .u32 X1))] := by
      rw [List.drop_zero, List.drop_zero, List.take_of_length_le (by omega), List.take_of_length_le (by omega)]; exact cb
    refine W.seqK fun K0 hK0 => ?_
    refine W.seqK fun K hK => W.regionK tt_ok ?_
    simp only [decide_true, exOps_nil, exOps_cons, exOp_eq, exCall_eq, nx_eq, cur_eq, evL, stepQ, ev, lk, putT, erA, inB, opt, bnd, req, ret, onQ, ap, binG, binF, intF, bltQ, bltV, lenF, true_and, and_self, or_false, Nat.reduceEqDiff, Nat.reduceLT, Nat.reduceAdd, if_true, if_false, List.getElem?_cons_zero, Option.bind_some, Option.map_some, tt_22, c1]
    refine hK _ ?_
    clear hK K
    refine W.cond (b := true) (by simp only [ev, lk, Nat.reduceEqDiff, if_true, if_false]) (fun _ => W.skip ?_) (fun h => absurd h (by simp))
    rw [thn_normal]
    refine hK0 _ ?_
    clear hK0 K0
    refine W.seqK fun K hK => W.blockK ?_
    refine W.region tt_ok ?_
    simp only [exOps_cons, exOp_eq, exCall_eq, nx_eq, cur_eq, evL, stepQ, ev, ofV, lk, putT, erA, inB, opt, bnd, req, ret, onQ, ap, binG, binF, intF, slF, bd, bds, and_true, true_and, and_self, Nat.reduceEqDiff, Nat.reduceLT, Nat.reduceAdd, Int.toNat_natCast, Nat.zero_add, if_true, if_false, reduceCtorEq, Option.bind_some, Option.map_some, tt_5, tt_22, hw, Int.toNat_natCast, h64]
    refine ⟨by omega, ?_⟩
    refine CallK.with [] [(876, .vec 26 (.ints .u32 X1))] _ _ cb' call31 (by simp only [Bool.or_false, lk, opt, bnd, req, ret, onQ, AV.isTup, isTupL, Ent.row, and_true, true_and, and_self, Nat.reduceEqDiff, Nat.zero_add, if_true, if_false, reduceCtorEq, forall_const, List.append_nil, vw.vwL, vw, viewR, AV.free, Ent.row, Bool.or_self]; all_goals (and_intros <;> first | exact AV.subL_refl _ | omega | (simp [AV.sub, entsFree, Ent.free, Row.free]; done) | rfl | (simp [AV.subL_refl]; done))) (by simp [leL]) (by intro n hn; first | (left; revert hn; simp [Nm, lk]; done) | (right; revert hn; simp only [Nm, lk]; split <;> simp <;> omega) | (by_cases h1 : Nm [] n; exact .inl h1; right; revert hn h1; simp only [Nm, lk]; split <;> (try split) <;> (try split) <;> (try split) <;> (try simp) <;> (try omega))) (by simp [entsIn]) ?_
    simp only [callDel, exOps_nil, exOps_cons, exOp_eq, nx_eq, cur_eq, stepQ, ev, lk, putT, erA, inB, opt, ret, onQ, ap, up, er, thn_normal, inb_normal, true_and, Nat.reduceEqDiff, Nat.reduceLT, Nat.reduceAdd, if_true, if_false, reduceCtorEq, List.nil_append, List.map_cons, List.map_nil, List.reverse_cons, List.reverse_nil]
    refine hK _ ?_
    refine W.region tt_ok ?_
    simp only [exOps_nil, exOps_cons, exOp_eq, nx_eq, cur_eq, stepQ, ev, ofV, lk, putT, erA, inB, opt, bnd, req, ret, onQ, ap, binG, binF, intF, thn_normal, true_and, and_self, Nat.reduceEqDiff, Nat.reduceLT, Nat.reduceAdd, if_true, if_false, hw]
    refine hK3 _ (j + 1) 876 48 (by omega) (by omega) ⟨⟨by simp [Nm, lk], by simp [Nm, lk]⟩, by simp, by simp⟩ ?_
    rw [hT1]
    simp [St.swap, tmMap, enMap, swp, AV.map, AV.mapL, Ent.map, Row.map, wk, leL, lk, nmT, nmE, nmH, AV.nmIn, AV.nmInL, Ent.nmIn, Row.nmIn]
  have hj' : j = f.length / 64 := by omega
  have c1 : ¬ ((64 * j : Nat) : Int) < (f.length : Nat) := by omega
  generalize hXX : blK f j = X at *
  refine W.seqK fun K0 hK0 => ?_
  refine W.seqK fun K hK => W.regionK tt_ok ?_
  simp only [decide_false, exOps_nil, exOps_cons, exOp_eq, exCall_eq, nx_eq, cur_eq, evL, stepQ, ev, lk, putT, erA, inB, opt, bnd, req, ret, onQ, ap, binG, binF, intF, bltQ, bltV, lenF, true_and, and_self, or_false, Nat.reduceEqDiff, Nat.reduceLT, Nat.reduceAdd, if_true, if_false, List.getElem?_cons_zero, Option.bind_some, Option.map_some, tt_22, c1]
  refine hK _ ?_
  clear hK K
  refine W.cond (b := false) (by simp only [ev, lk, Nat.reduceEqDiff, if_true, if_false]) (fun h => absurd h (by simp)) (fun _ => W.exit ?_)
  simp only [thn_normal, thn_exit, inb_exit, if_true]
  clear hK0 K0
  refine hKx _ ?_
  clear hK3 hlt hj c1 hKx
  refine W.seqK fun K hK => W.regionK tt_ok ?_
  simp only [exOps_nil, exOps_cons, exOp_eq, nx_eq, cur_eq, stepQ, putT, erA, inB, opt, ret, onQ, ap, up, er, true_and, Nat.reduceEqDiff, Nat.reduceLT, Nat.reduceAdd, if_false, reduceCtorEq, tt_24]
  refine hK _ ?_
  clear hK K
  refine W.seqK fun Kx hKx => ?_
  refine W.seqK fun K hK => W.regionK tt_ok ?_
  simp only [exOps_nil, exOps_cons, exOp_eq, nx_eq, cur_eq, stepQ, ev, ofV, putT, erA, inB, opt, ret, onQ, ap, true_and, Nat.reduceEqDiff, Nat.reduceLT, Nat.reduceAdd, if_false]
  refine hK _ ?_
  clear hK K
  refine W.blockK ?_
  refine W.loopK (fun i : Nat => i ≤ 8) (fun i => ⟨[(2, .ptr 0 0 0 1), (4, .sl 48 1 0 8), (7, .ptr 764 0 0 1), (8, .int .i64 (i : Int))], [(0, .obj 24 (.agg [.ints .u8 32 (List.replicate 32 0)])), (48, .vec 26 (.ints .u32 X)), (764, .obj 24 (.agg [.ints .u8 32 (outR X i)]))], 900, 52⟩) (fun i => 8 - i) 0 (by simp) (by simp [outR, wk, leL, lk, nmT, nmE, nmH, AV.nmIn, AV.nmInL, Ent.nmIn, Row.nmIn]) ?_
  intro i hi K3 hK3
  have hol := outR_len X i
  by_cases hlt : i < 8
  · have c1 : (i : Int) < 8 := by omega
    have hn : outR X (i + 1) = (inR (outR X i) i (X.getD i 0) 4).1 := rfl
    generalize hT1 : outR X (i + 1) = L1 at *
    generalize hT0 : outR X i = L at *
    refine W.seqK fun K0 hK0 => ?_
    refine W.seqK fun K hK => W.regionK tt_ok ?_
    simp only [decide_true, exOps_nil, exOps_cons, exOp_eq, nx_eq, cur_eq, stepQ, ev, ofV, lk, putT, erA, inB, opt, bnd, req, ret, onQ, ap, binG, binF, intF, true_and, and_self, Nat.reduceEqDiff, Nat.reduceLT, Nat.reduceAdd, if_true, if_false, c1]
    refine hK _ ?_
    clear hK K
    refine W.cond (b := true) (by simp only [ev, lk, Nat.reduceEqDiff, if_true, if_false]) (fun _ => W.skip ?_) (fun h => absurd h (by simp))
    rw [thn_normal]
    refine hK0 _ ?_
    clear hK0 K0
    refine W.seqK fun K hK => W.blockK ?_
    refine W.seqK fun K hK => W.regionK tt_ok ?_
    simp only [exOps_nil, exOps_cons, exOp_eq, nx_eq, cur_eq, stepQ, ev, lk, putT, erA, inB, opt, bnd, req, ret, onQ, ap, Kd.elem, ixA, asI, ldP, ldE, Kd.agg, and_true, true_and, Nat.reduceEqDiff, Nat.reduceLT, Nat.reduceLeDiff, Nat.reduceAdd, Int.toNat_natCast, Nat.zero_add, if_true, if_false, Bool.false_eq_true, reduceCtorEq, tt_26, tt_59, hbl, Int.toNat_natCast]
    repeat (refine ⟨by omega, ?_⟩)
    refine hK _ ?_
    clear hK K
    refine W.seqK fun K hK => W.regionK tt_ok ?_
    simp only [exOps_nil, exOps_cons, exOp_eq, nx_eq, cur_eq, stepQ, ev, ofV, putT, erA, inB, opt, ret, onQ, ap, true_and, Nat.reduceEqDiff, Nat.reduceLT, Nat.reduceAdd, if_false]
    refine hK _ ?_
    clear hK K
    refine W.blockK ?_
    generalize X.getD i 0 = v at *
    refine W.loopK (fun k : Nat => k ≤ 4) (fun k => ⟨[(2, .ptr 0 0 0 1), (4, .sl 48 1 0 8), (7, .ptr 764 0 0 1), (8, .int .i64 (i : Int)), (9, .int .u32 (inR L i v k).2), (10, .int .i64 (3 - (k : Int)))], [(0, .obj 24 (.agg [.ints .u8 32 (List.replicate 32 0)])), (48, .vec 26 (.ints .u32 X)), (764, .obj 24 (.agg [.ints .u8 32 (inR L i v k).1]))], 1100, 52⟩) (fun k => 4 - k) 0 (by simp) (by simp [inR, wk, leL, lk, nmT, nmE, nmH, AV.nmIn, AV.nmInL, Ent.nmIn, Row.nmIn]) ?_
    intro k hk K4 hK4
    have hil := inR_len L i v k
    by_cases hkt : k < 4
    · have c2 : (0 : Int) ≤ 3 - (k : Int) := by omega
      have hps := inR_s L i v k
      generalize hX1 : inR L i v (k + 1) = s1 at *
      generalize hX0 : inR L i v k = s0 at *
      obtain ⟨o, n⟩ := s0
      simp only at hil hps
      have hw1 : IntKind.i64.wrap (4 * (i : Int)) = 4 * (i : Int) := by rw [IntKind.wrap_i64]; omega
      have hw2 : IntKind.i64.wrap (4 * (i : Int) + (3 - (k : Int))) = ((4 * i + (3 - k) : Nat) : Int) := by rw [IntKind.wrap_i64]; omega
      have hw3 : IntKind.i64.wrap (3 - (k : Int) - 1) = 3 - ((k + 1 : Nat) : Int) := by rw [IntKind.wrap_i64]; omega
      refine W.seqK fun K0 hK0 => ?_
      refine W.seqK fun K hK => W.regionK tt_ok ?_
      simp only [decide_true, exOps_nil, exOps_cons, exOp_eq, nx_eq, cur_eq, stepQ, ev, ofV, lk, putT, erA, inB, opt, bnd, req, ret, onQ, ap, binG, binF, intF, true_and, and_self, Nat.reduceEqDiff, Nat.reduceLT, Nat.reduceAdd, if_true, if_false, c2]
      refine hK _ ?_
      clear hK K
      refine W.cond (b := true) (by simp only [ev, lk, Nat.reduceEqDiff, if_true, if_false]) (fun _ => W.skip ?_) (fun h => absurd h (by simp))
      rw [thn_normal]
      refine hK0 _ ?_
      clear hK0 K0
      refine W.seqK fun K hK => W.blockK ?_
      refine W.seqK fun K hK => W.regionK tt_ok ?_
      simp only [exOps_nil, exOps_cons, exOp_eq, nx_eq, cur_eq, stepQ, ev, ofV, lk, putT, erA, inB, opt, bnd, req, ret, onQ, ap, up, er, AV.isTup, AV.isAgg, binG, binF, intF, Kd.elem, Kd.isInt, ixA, asI, Kd.agg, comps, csize, takeI, takeC, dropC, stE, stC, stS, cvQ, and_true, true_and, and_self, Nat.reduceEqDiff, Nat.reduceLT, Nat.reduceLeDiff, Nat.reduceAdd, Nat.reduceSub, Int.toNat_natCast, Nat.zero_add, if_true, if_false, Bool.false_eq_true, reduceCtorEq, ne_eq, Option.bind_some, Option.map_some, tt_5, tt_24, tt_26, Sx.stP, hw1, hw2, Int.toNat_natCast]
      have ho32 : o.length = 32 := by omega
      refine ⟨by omega, by omega, ?_⟩
      repeat (refine ⟨by omega, ?_⟩)
      refine hK _ ?_
      clear hK K
      refine W.region tt_ok ?_
      simp only [exOps_nil, exOps_cons, exOp_eq, nx_eq, cur_eq, stepQ, ev, ofV, lk, putT, erA, inB, opt, bnd, req, ret, onQ, ap, binG, binF, intF, thn_normal, inb_normal, and_true, true_and, Nat.reduceEqDiff, Nat.reduceLT, Nat.reduceAdd, if_true, if_false, ne_eq]
      repeat (refine ⟨by omega, ?_⟩)
      refine hK _ ?_
      refine W.region tt_ok ?_
      simp only [exOps_nil, exOps_cons, exOp_eq, nx_eq, cur_eq, stepQ, ev, ofV, lk, putT, erA, inB, opt, bnd, req, ret, onQ, ap, binG, binF, intF, thn_normal, true_and, and_self, Nat.reduceEqDiff, Nat.reduceLT, Nat.reduceAdd, if_true, if_false, hw3]
      refine hK4 _ (k + 1) (by omega) (by omega) ?_
      rw [hX1, hps]
      simp [wk, leL, lk, nmT, nmE, nmH, AV.nmIn, AV.nmInL, Ent.nmIn, Row.nmIn]
    have hk' : k = 4 := by omega
    subst hk'
    have c2 : ¬ (0 : Int) ≤ 3 - ((4 : Nat) : Int) := by omega
    rw [← hn]
    generalize inR L i v 4 = s0 at *
    obtain ⟨o, n⟩ := s0
    simp only at hil hn
    subst hn
    refine W.seqK fun K0 hK0 => ?_
    refine W.seqK fun K hK => W.regionK tt_ok ?_
    simp only [decide_false, exOps_nil, exOps_cons, exOp_eq, nx_eq, cur_eq, stepQ, ev, ofV, lk, putT, erA, inB, opt, bnd, req, ret, onQ, ap, binG, binF, intF, true_and, and_self, Nat.reduceEqDiff, Nat.reduceLT, Nat.reduceAdd, if_true, if_false, c2]
    refine hK _ ?_
    clear hK K
    refine W.cond (b := false) (by simp only [ev, lk, Nat.reduceEqDiff, if_true, if_false]) (fun h => absurd h (by simp)) (fun _ => W.exit ?_)
    simp only [thn_normal, thn_exit, inb_normal, inb_exit, Nat.reduceEqDiff, if_true, if_false]
    clear hK0 K0
    refine hK _ ?_
    refine W.region tt_ok ?_
    simp only [exOps_nil, exOps_cons, exOp_eq, nx_eq, cur_eq, stepQ, ev, ofV, lk, putT, erA, inB, opt, bnd, req, ret, onQ, ap, binG, binF, intF, thn_normal, true_and, and_self, Nat.reduceEqDiff, Nat.reduceLT, Nat.reduceAdd, if_true, if_false, wrap_up i (by omega)]
    refine hK3 _ (i + 1) (by omega) (by omega) ?_
    rw [hT1]
    simp [wk, leL, lk, nmT, nmE, nmH, AV.nmIn, AV.nmInL, Ent.nmIn, Row.nmIn]
  have hi' : i = 8 := by omega
  subst hi'
  have c1 : ¬ ((8 : Nat) : Int) < 8 := by omega
  generalize hOO : outR X 8 = O at *
  refine W.seqK fun K0 hK0 => ?_
  refine W.seqK fun K hK => W.regionK tt_ok ?_
  simp only [decide_false, exOps_nil, exOps_cons, exOp_eq, nx_eq, cur_eq, stepQ, ev, ofV, lk, putT, erA, inB, opt, bnd, req, ret, onQ, ap, binG, binF, intF, true_and, and_self, Nat.reduceEqDiff, Nat.reduceLT, Nat.reduceAdd, if_true, if_false, c1]
  refine hK _ ?_
  clear hK K
  refine W.cond (b := false) (by simp only [ev, lk, Nat.reduceEqDiff, if_true, if_false]) (fun h => absurd h (by simp)) (fun _ => W.exit ?_)
  simp only [thn_normal, thn_exit, inb_exit, if_true]
  clear hK0 K0
  refine hKx _ ?_
  refine W.seqK fun K hK => W.regionK tt_ok ?_
  simp only [exOps_nil, exOps_cons, exOp_eq, nx_eq, cur_eq, stepQ, ev, lk, putT, erA, inB, opt, bnd, req, ret, onQ, ap, up, er, AV.isAgg, ldP, ldE, ldC, ldS, Kd.agg, comps, szL, csize, takeI, takeC, dropC, stE, stC, stS, true_and, and_self, Nat.reduceEqDiff, Nat.reduceLT, Nat.reduceLeDiff, Nat.reduceAdd, Nat.reduceSub, Nat.sub_self, Nat.le_refl, Nat.add_zero, Nat.zero_add, if_true, if_false, reduceCtorEq, Option.bind_some, Option.map_some, List.append_nil, List.nil_append, tt_24, Sx.stP]
  refine hK _ ?_
  clear hK K
  refine W.ret ?_
  simp only [fin_ret, finB, resQ, resV, leL, AV.nmIn, AV.nmInL, entsIn, lk, opt, bnd, req, ret, onQ, AV.isTup, ldP, ldE, ldC, ldS, Kd.agg, comps, csize, takeI, takeC, dropC, and_true, true_and, and_self, Nat.reduceEqDiff, Nat.reduceLT, Nat.reduceLeDiff, Nat.reduceSub, Nat.sub_self, Nat.le_refl, Nat.add_zero, if_true, if_false, reduceCtorEq, Option.bind_some, Option.map_some, tt_24]
  rw [← hj', hXX, hOO]
theorem call17 : Callable Tryd.prog 17 := ⟨_, Tryd.func17, by kernel_rfl, by kernel_rfl⟩
end Go.Proofs.YtageadccfdbmjaaDoor
